/- Contracts: own; slices.EqualFunc over fields and parameters, whatever the closure does. Printed by bin/gen_faceeqf.py. -/
import Derived.Test.YtgcjdkgeiopllaaFaceA
import Derived.Test.YtgcjdkgeiopllaaLibC
namespace Go.Proofs.Ytgcjdkgeiopllaa
set_option linter.unusedVariables false
set_option linter.unusedSimpArgs false
open Go.RowKit

def ownB (r : Rf) : Bool := decide (r.mod = 0 ∧ 16 ≤ r.idx)
theorem own_walk (m i : Int) (w : World) : Calls Try.prog 34 #[.agg #[.int .i64 m, .int .i64 i]] w fun e w' => e = .returned (.bool (ownB ⟨m, i⟩)) ∧ Below w.heap.size w w' := by
  by_cases hm : m = 0
  · have HV : Hid (ownB ⟨m, i⟩ = decide (16 ≤ i)) := Lib.hid (decide_eq_decide.2 (by dsimp only; omega))
    have h1 : (m == 0) = true := by rw [hm]; rfl
    clear hm
    go_enter Try.func34, Try.ntmps34
    go_wp2
    go_ret
    rw [HV.out]
    exact ⟨rfl, bel1 _ _⟩
  · have HV : Hid (ownB ⟨m, i⟩ = false) := Lib.hid (decide_eq_false (fun h => hm h.1))
    have h1 : (m == 0) = false := by rw [beq_eq_false_iff_ne]; exact hm
    clear hm
    go_enter Try.func34, Try.ntmps34
    go_wp2
    go_ret
    rw [HV.out]
    exact ⟨rfl, bel1 _ _⟩

/-- how a comparison ends. -/
def EqEnd (n : Nat) (I : Nat → World → Prop) (K : World → Prop) (e : Ending) (w' : World) : Prop := (e = .returned (.bool true) ∧ I n w') ∨ (e = .returned (.bool false) ∧ K w')
def EqEndL (L : Prop) (n : Nat) (I : Nat → World → Prop) (K : World → Prop) (e : Ending) (w' : World) : Prop := (e = .returned (.bool true) ∧ L ∧ I n w') ∨ (e = .returned (.bool false) ∧ K w')

set_option maxRecDepth 100000 in
set_option maxHeartbeats 4000000 in
theorem eqFld_walk (l m : Sl Fld) (cap : Value) (w : World) (I : Nat → World → Prop) (K : World → Prop) (hI : I 0 w)
    (hst : ∀ k W W', I k W → Below W.heap.size W W' → I k W') (hrow : ∀ k W, I k W → Rows fldD W l ∧ Rows fldD W m) (h0 : l.l.length ≠ m.l.length → K w) (hl : l.l.length ≤ 1000000) (hm : m.l.length ≤ 1000000)
    (hc : ∀ (k : Nat) (x y : Fld) (W : World), l.l[k]? = some x → m.l[k]? = some y → I k W → Calls Try.prog 49 #[.agg (fldD.cells x).toArray, .agg (fldD.cells y).toArray, cap] W (EqEnd (k + 1) I K)) :
    Calls Try.prog 48 #[l.val, m.val, .func (.func 49) #[] #[cap]] w (EqEndL (l.l.length = m.l.length) l.l.length I K) := by
  have HST := Lib.hid hst
  have HRO := Lib.hid hrow
  have HCL := Lib.hid hc
  have H0 := Lib.hid h0
  have HI := Lib.hid hI
  clear hst hrow hc h0 hI
  obtain ⟨la, lc, l⟩ := l
  obtain ⟨ma, mc, m⟩ := m
  dsimp only at HRO HCL H0 hl hm ⊢
  show Calls _ _ #[.slice la l.length lc, .slice ma m.length mc, .func (.func 49) #[] #[cap]] w _
  have HSN := Lib.hid (fun w' : World => Sep.nil w')
  by_cases hlen : l.length = m.length
  rotate_left
  · have hq : ((l.length : Int) == m.length) = false := by rw [beq_eq_false_iff_ne]; omega
    have hq2 : (l.length == m.length) = false := by rw [beq_eq_false_iff_ne]; omega
    have hq3 : ((l.length : Int) != m.length) = true := by rw [bne_iff_ne]; omega
    have hq4 : (l.length != m.length) = true := by rw [bne_iff_ne]; omega
    have HK := Lib.hid (H0.out hlen)
    clear hlen
    go_enter Try.func48, Try.ntmps48
    go_wp2
    go_ret
    exact .inr ⟨rfl, HK.out⟩
  have hq : ((l.length : Int) == m.length) = true := by rw [beq_iff_eq]; omega
  have hq2 : (l.length == m.length) = true := by rw [beq_iff_eq]; omega
  have hq3 : ((l.length : Int) != m.length) = false := by rw [bne, hq]; rfl
  have hq4 : (l.length != m.length) = false := by rw [bne, hq2]; rfl
  have HLN := Lib.hid hlen
  clear hlen H0
  go_enter Try.func48, Try.ntmps48
  go_wp2_with (fail)
  go_loopw [17] (fun i wr => ∃ k : Nat, k ≤ l.length ∧ i = .int .i64 k ∧ I k wr) (fun i _ => l.length - (intOf i).toNat)
  case atStart => exact ⟨0, Nat.zero_le _, rfl, HI.out⟩
  case round =>
    obtain ⟨k, hk, rfl, hi⟩ := hrel
    have HK := Lib.hid hi
    clear hi HI
    by_cases hlt : k < l.length
    · obtain ⟨⟨xn, xo, ⟨xm, xi⟩⟩, hx⟩ := get_lt hlt
      obtain ⟨⟨yn, yo, ⟨ym, yi⟩⟩, hy⟩ := get_lt (l := m) (i := k) (by have := HLN.out; omega)
      obtain ⟨hrl, hrm⟩ := HRO.out k wr HK.out
      obtain ⟨b, o, hat, hcl⟩ := hrl.at'
      obtain ⟨b', o', hat', hcm⟩ := hrm.at'
      dsimp only at hat hat' hcl hcm
      obtain ⟨rfl, hb⟩ := hat (by omega)
      obtain ⟨rfl, hb'⟩ := hat' (by have := HLN.out; omega)
      have HCL1 : Hid (∀ (q : Nat) (v : Value), ([.string xn, .int .i64 xo, .int .i64 xm, .int .i64 xi] : List Value)[q]? = some v → wr.cell? ⟨b, o + k * 4 + q, none⟩ = some v) := Lib.hid (fun q v hv => hcl k _ hx q v hv)
      have HCM1 : Hid (∀ W, Below wr.heap.size wr W → ∀ (q : Nat) (v : Value), ([.string yn, .int .i64 yo, .int .i64 ym, .int .i64 yi] : List Value)[q]? = some v → W.cell? ⟨b', o' + k * 4 + q, none⟩ = some v) := Lib.hid (fun W kk q v hv => (kk.cell (p := ⟨b', o' + k * 4 + q, none⟩) hb').trans (hcm k _ hy q v hv))
      have HQ : Hid (∀ W, I k W → Calls Try.prog 49 #[.agg #[.string xn, .int .i64 xo, .int .i64 xm, .int .i64 xi], .agg #[.string yn, .int .i64 yo, .int .i64 ym, .int .i64 yi], cap] W (EqEnd (k + 1) I K)) := Lib.hid (fun W h => HCL.out k ⟨xn, xo, ⟨xm, xi⟩⟩ ⟨yn, yo, ⟨ym, yi⟩⟩ W hx hy h)
      have HLT := Lib.hid hlt
      have hle := hrl.row.le
      have hle' := hrm.row.le
      dsimp only at hle hle'
      have kl : (k : Int) < l.length := by omega
      have km : (k : Int) < m.length := by have := HLN.out; omega
      have kl2 : (k : Int) < lc := by omega
      have km2 : (k : Int) < mc := by omega
      clear hx hy hrl hrm hat hat' hcl hcm hb hb' hle hle' HRO HCL
      have fl1 : True := trivial
      have fl2 : True := trivial
      have fl3 : True := trivial
      have fl4 : True := trivial
      have fl5 : True := trivial
      have fl6 : True := trivial
      have fl7 : True := trivial
      have fl8 : True := trivial
      have fl9 : True := trivial
      go_wp2_with (first | (have _f := fl1; refine wpList_load_mid rfl 78 (.tmp 20) rfl b (o + k * 4) rfl [.string xn, .int .i64 xo, .int .i64 xm, .int .i64 xi] _ HCL1.out Try.underlying78 rfl (by kernel_rfl) ?_; clear _f fl1) | (have _f := fl2; refine alloc_sep rfl 78 rfl (HSN.out _) (z := .agg #[.string ⟨#[]⟩, .int .i64 0, .int .i64 0, .int .i64 0]) (cs := #[.string ⟨#[]⟩, .int .i64 0, .int .i64 0, .int .i64 0]) (by kernel_rfl) rfl ?_; intro wc S' b' s'; have HSwc := Lib.hid S'; have HBwc := Lib.hid b'; clear S' b' s'; clear _f fl2) | (have _f := fl3; refine store_sep (cells := #[.string xn, .int .i64 xo, .int .i64 xm, .int .i64 xi]) rfl 78 (.tmp 8) (.tmp 21) rfl HSwc.out 0 rfl rfl rfl (by kernel_rfl) rfl rfl ?_; intro we S' k' s'; have HGwe := Lib.hid (S'.at 0 rfl); have HBwe : Hid (Below wr.heap.size wr we) := Lib.hid (((Ke.below (· = wr.heap.size) HBwc.out).trans k').toBelow (fun i hi e => absurd e (Nat.ne_of_lt hi))); clear S' k' s'; clear _f fl3) | (have _f := fl4; refine wpList_load_mid rfl 78 (.tmp 24) rfl b' (o' + k * 4) rfl [.string yn, .int .i64 yo, .int .i64 ym, .int .i64 yi] _ (HCM1.out _ HBwe.out) Try.underlying78 rfl (by kernel_rfl) ?_; clear _f fl4) | (have _f := fl5; refine alloc_sep rfl 78 rfl (HSN.out _) (z := .agg #[.string ⟨#[]⟩, .int .i64 0, .int .i64 0, .int .i64 0]) (cs := #[.string ⟨#[]⟩, .int .i64 0, .int .i64 0, .int .i64 0]) (by kernel_rfl) rfl ?_; intro wd S' b' s'; have HSwd := Lib.hid S'; have HBwd := Lib.hid b'; clear S' b' s'; clear _f fl5) | (have _f := fl6; refine store_sep (cells := #[.string yn, .int .i64 yo, .int .i64 ym, .int .i64 yi]) rfl 78 (.tmp 9) (.tmp 25) rfl HSwd.out 0 rfl rfl rfl (by kernel_rfl) rfl rfl ?_; intro wf S' k' s'; have HGwf := Lib.hid (S'.at 0 rfl); have HBwf : Hid (Below we.heap.size we wf) := Lib.hid (((Ke.below (· = we.heap.size) HBwd.out).trans k').toBelow (fun i hi e => absurd e (Nat.ne_of_lt hi))); have HGx := Lib.hid (HGwe.out.bel HBwf.out); have HBx := Lib.hid (bel_then HBwe.out HBwf.out); clear S' k' s'; clear _f fl6) | (have _f := fl7; refine load_sep (cs := #[.string xn, .int .i64 xo, .int .i64 xm, .int .i64 xi]) rfl 78 (.tmp 8) rfl (Sep.one HGx.out) 0 rfl rfl Try.underlying78 rfl (by kernel_rfl) ?_; clear _f fl7) | (have _f := fl8; refine load_sep (cs := #[.string yn, .int .i64 yo, .int .i64 ym, .int .i64 yi]) rfl 78 (.tmp 9) rfl (Sep.one HGwf.out) 0 rfl rfl Try.underlying78 rfl (by kernel_rfl) ?_; clear _f fl8) | (have _f := fl9; refine (HQ.out _ (HST.out _ _ _ HK.out HBx.out)).mono ?_; rintro e w1 (⟨rfl, hi⟩ | ⟨rfl, hi⟩) <;> have HN := Lib.hid hi <;> clear hi; clear _f fl9))
      · go_roundw
        case rel => exact ⟨k + 1, HLT.out, by go_num, HN.out⟩
        case measure => simp [intOf]; have := HLT.out; omega
      · go_ret
        exact .inr ⟨rfl, HN.out⟩
    · obtain rfl : k = l.length := by omega
      clear hk
      go_wp2_with (fail)
      go_ret
      exact .inl ⟨rfl, HLN.out, HK.out⟩

set_option maxRecDepth 100000 in
set_option maxHeartbeats 4000000 in
theorem eqPrm_walk (l m : Sl Prm) (cap : Value) (w : World) (I : Nat → World → Prop) (K : World → Prop) (hI : I 0 w)
    (hst : ∀ k W W', I k W → Below W.heap.size W W' → I k W') (hrow : ∀ k W, I k W → Rows prmD W l ∧ Rows prmD W m) (h0 : l.l.length ≠ m.l.length → K w) (hl : l.l.length ≤ 1000000) (hm : m.l.length ≤ 1000000)
    (hc : ∀ (k : Nat) (x y : Prm) (W : World), l.l[k]? = some x → m.l[k]? = some y → I k W → Calls Try.prog 43 #[.agg (prmD.cells x).toArray, .agg (prmD.cells y).toArray, cap] W (EqEnd (k + 1) I K)) :
    Calls Try.prog 42 #[l.val, m.val, .func (.func 43) #[] #[cap]] w (EqEndL (l.l.length = m.l.length) l.l.length I K) := by
  have HST := Lib.hid hst
  have HRO := Lib.hid hrow
  have HCL := Lib.hid hc
  have H0 := Lib.hid h0
  have HI := Lib.hid hI
  clear hst hrow hc h0 hI
  obtain ⟨la, lc, l⟩ := l
  obtain ⟨ma, mc, m⟩ := m
  dsimp only at HRO HCL H0 hl hm ⊢
  show Calls _ _ #[.slice la l.length lc, .slice ma m.length mc, .func (.func 43) #[] #[cap]] w _
  have HSN := Lib.hid (fun w' : World => Sep.nil w')
  by_cases hlen : l.length = m.length
  rotate_left
  · have hq : ((l.length : Int) == m.length) = false := by rw [beq_eq_false_iff_ne]; omega
    have hq2 : (l.length == m.length) = false := by rw [beq_eq_false_iff_ne]; omega
    have hq3 : ((l.length : Int) != m.length) = true := by rw [bne_iff_ne]; omega
    have hq4 : (l.length != m.length) = true := by rw [bne_iff_ne]; omega
    have HK := Lib.hid (H0.out hlen)
    clear hlen
    go_enter Try.func42, Try.ntmps42
    go_wp2
    go_ret
    exact .inr ⟨rfl, HK.out⟩
  have hq : ((l.length : Int) == m.length) = true := by rw [beq_iff_eq]; omega
  have hq2 : (l.length == m.length) = true := by rw [beq_iff_eq]; omega
  have hq3 : ((l.length : Int) != m.length) = false := by rw [bne, hq]; rfl
  have hq4 : (l.length != m.length) = false := by rw [bne, hq2]; rfl
  have HLN := Lib.hid hlen
  clear hlen H0
  go_enter Try.func42, Try.ntmps42
  go_wp2_with (fail)
  go_loopw [17] (fun i wr => ∃ k : Nat, k ≤ l.length ∧ i = .int .i64 k ∧ I k wr) (fun i _ => l.length - (intOf i).toNat)
  case atStart => exact ⟨0, Nat.zero_le _, rfl, HI.out⟩
  case round =>
    obtain ⟨k, hk, rfl, hi⟩ := hrel
    have HK := Lib.hid hi
    clear hi HI
    by_cases hlt : k < l.length
    · obtain ⟨⟨xv, ⟨xm, xi⟩⟩, hx⟩ := get_lt hlt
      obtain ⟨⟨yv, ⟨ym, yi⟩⟩, hy⟩ := get_lt (l := m) (i := k) (by have := HLN.out; omega)
      obtain ⟨hrl, hrm⟩ := HRO.out k wr HK.out
      obtain ⟨b, o, hat, hcl⟩ := hrl.at'
      obtain ⟨b', o', hat', hcm⟩ := hrm.at'
      dsimp only at hat hat' hcl hcm
      obtain ⟨rfl, hb⟩ := hat (by omega)
      obtain ⟨rfl, hb'⟩ := hat' (by have := HLN.out; omega)
      have HCL1 : Hid (∀ (q : Nat) (v : Value), ([.bool xv, .int .i64 xm, .int .i64 xi] : List Value)[q]? = some v → wr.cell? ⟨b, o + k * 3 + q, none⟩ = some v) := Lib.hid (fun q v hv => hcl k _ hx q v hv)
      have HCM1 : Hid (∀ W, Below wr.heap.size wr W → ∀ (q : Nat) (v : Value), ([.bool yv, .int .i64 ym, .int .i64 yi] : List Value)[q]? = some v → W.cell? ⟨b', o' + k * 3 + q, none⟩ = some v) := Lib.hid (fun W kk q v hv => (kk.cell (p := ⟨b', o' + k * 3 + q, none⟩) hb').trans (hcm k _ hy q v hv))
      have HQ : Hid (∀ W, I k W → Calls Try.prog 43 #[.agg #[.bool xv, .int .i64 xm, .int .i64 xi], .agg #[.bool yv, .int .i64 ym, .int .i64 yi], cap] W (EqEnd (k + 1) I K)) := Lib.hid (fun W h => HCL.out k ⟨xv, ⟨xm, xi⟩⟩ ⟨yv, ⟨ym, yi⟩⟩ W hx hy h)
      have HLT := Lib.hid hlt
      have hle := hrl.row.le
      have hle' := hrm.row.le
      dsimp only at hle hle'
      have kl : (k : Int) < l.length := by omega
      have km : (k : Int) < m.length := by have := HLN.out; omega
      have kl2 : (k : Int) < lc := by omega
      have km2 : (k : Int) < mc := by omega
      clear hx hy hrl hrm hat hat' hcl hcm hb hb' hle hle' HRO HCL
      have fl10 : True := trivial
      have fl11 : True := trivial
      have fl12 : True := trivial
      have fl13 : True := trivial
      have fl14 : True := trivial
      have fl15 : True := trivial
      have fl16 : True := trivial
      have fl17 : True := trivial
      have fl18 : True := trivial
      go_wp2_with (first | (have _f := fl10; refine wpList_load_mid rfl 66 (.tmp 20) rfl b (o + k * 3) rfl [.bool xv, .int .i64 xm, .int .i64 xi] _ HCL1.out Try.underlying66 rfl (by kernel_rfl) ?_; clear _f fl10) | (have _f := fl11; refine alloc_sep rfl 66 rfl (HSN.out _) (z := .agg #[.bool false, .int .i64 0, .int .i64 0]) (cs := #[.bool false, .int .i64 0, .int .i64 0]) (by kernel_rfl) rfl ?_; intro wc S' b' s'; have HSwc := Lib.hid S'; have HBwc := Lib.hid b'; clear S' b' s'; clear _f fl11) | (have _f := fl12; refine store_sep (cells := #[.bool xv, .int .i64 xm, .int .i64 xi]) rfl 66 (.tmp 8) (.tmp 21) rfl HSwc.out 0 rfl rfl rfl (by kernel_rfl) rfl rfl ?_; intro we S' k' s'; have HGwe := Lib.hid (S'.at 0 rfl); have HBwe : Hid (Below wr.heap.size wr we) := Lib.hid (((Ke.below (· = wr.heap.size) HBwc.out).trans k').toBelow (fun i hi e => absurd e (Nat.ne_of_lt hi))); clear S' k' s'; clear _f fl12) | (have _f := fl13; refine wpList_load_mid rfl 66 (.tmp 24) rfl b' (o' + k * 3) rfl [.bool yv, .int .i64 ym, .int .i64 yi] _ (HCM1.out _ HBwe.out) Try.underlying66 rfl (by kernel_rfl) ?_; clear _f fl13) | (have _f := fl14; refine alloc_sep rfl 66 rfl (HSN.out _) (z := .agg #[.bool false, .int .i64 0, .int .i64 0]) (cs := #[.bool false, .int .i64 0, .int .i64 0]) (by kernel_rfl) rfl ?_; intro wd S' b' s'; have HSwd := Lib.hid S'; have HBwd := Lib.hid b'; clear S' b' s'; clear _f fl14) | (have _f := fl15; refine store_sep (cells := #[.bool yv, .int .i64 ym, .int .i64 yi]) rfl 66 (.tmp 9) (.tmp 25) rfl HSwd.out 0 rfl rfl rfl (by kernel_rfl) rfl rfl ?_; intro wf S' k' s'; have HGwf := Lib.hid (S'.at 0 rfl); have HBwf : Hid (Below we.heap.size we wf) := Lib.hid (((Ke.below (· = we.heap.size) HBwd.out).trans k').toBelow (fun i hi e => absurd e (Nat.ne_of_lt hi))); have HGx := Lib.hid (HGwe.out.bel HBwf.out); have HBx := Lib.hid (bel_then HBwe.out HBwf.out); clear S' k' s'; clear _f fl15) | (have _f := fl16; refine load_sep (cs := #[.bool xv, .int .i64 xm, .int .i64 xi]) rfl 66 (.tmp 8) rfl (Sep.one HGx.out) 0 rfl rfl Try.underlying66 rfl (by kernel_rfl) ?_; clear _f fl16) | (have _f := fl17; refine load_sep (cs := #[.bool yv, .int .i64 ym, .int .i64 yi]) rfl 66 (.tmp 9) rfl (Sep.one HGwf.out) 0 rfl rfl Try.underlying66 rfl (by kernel_rfl) ?_; clear _f fl17) | (have _f := fl18; refine (HQ.out _ (HST.out _ _ _ HK.out HBx.out)).mono ?_; rintro e w1 (⟨rfl, hi⟩ | ⟨rfl, hi⟩) <;> have HN := Lib.hid hi <;> clear hi; clear _f fl18))
      · go_roundw
        case rel => exact ⟨k + 1, HLT.out, by go_num, HN.out⟩
        case measure => simp [intOf]; have := HLT.out; omega
      · go_ret
        exact .inr ⟨rfl, HN.out⟩
    · obtain rfl : k = l.length := by omega
      clear hk
      go_wp2_with (fail)
      go_ret
      exact .inl ⟨rfl, HLN.out, HK.out⟩
end Go.Proofs.Ytgcjdkgeiopllaa
