/- Contracts of isa.Cond, isa.Op: a map of literals, asked once. -/
import Derived.Test.YtmnmbpenonodiaaDoorIsaLaid
import Derived.Test.YtmnmbpenonodiaaDoorSep
import Derived.Maps.OwnOps
namespace Go.Proofs.YtmnmbpenonodiaaDoor
set_option linter.unusedVariables false
set_option linter.unusedSimpArgs false
open Go.RowKit Go.Lib Go.Maps

/-- how a struct of one string reads. -/
def rstr (v : Value) : Option (DataW Unit × List MemPlace) :=
  match v with
  | .agg ⟨[.string s]⟩ => some (.lit (.string s.data.toList), [])
  | _ => none
theorem rstr_inv {v : Value} {l : List UInt8} {ps : List MemPlace} (h : rstr v = some (.lit (.string l), ps)) : v = .agg #[.string ⟨l.toArray⟩] := by
  unfold rstr at h
  split at h
  · simp at h
    obtain ⟨rfl, _⟩ := h
    rfl
  · cases h

/-- a literal's entry. -/
theorem insert_own {P : Program} (w : World) {ops : Array Oper} {rest : List Oper} {o : Oper} {a : Act} {Q : Exit → Act → World → Prop}
    (hg : o.guard = none) (m x v : Operand) (t : TypeId) (hop : o.op = Op.insert t m x v)
    (k e : TypeId) (K : Keyed P k) (ht : P.underlying t = some (.map k e)) (b n : Nat) (D : DataW Unit)
    (hm : a.eval m = .map (some b)) (hown : w.ownsMap P k rstr b n D) (hn : n < maxLen) (key val : Value) (kl : Lit) (hx : a.eval x = key) (hv : a.eval v = val) (hkey : keyOf P k key = some kl)
    (d : DataW Unit) (ps : List MemPlace) (hval : rstr val = some (d, ps))
    (hK : ∀ w', w'.ownsMap P k rstr b (n + 1) (D.put kl d) → w.grownBy w' (some b) → wpList P ops Q rest (a.put o.dst undef) w') :
    wpList P ops Q (o :: rest) a w := by
  refine wpList_plain hg fun K' hK' => ?_
  obtain ⟨w', hrun, r1, r2⟩ := hown.update K ht hn hkey hval
  unfold Oper.wp
  simp [execOp, hop, hm, hx, hv, hrun, Result.andThen]
  exact hK' _ _ (hK w' r1 r2)

theorem ikey : Keyed Tryd.prog 3 := int_keyed Tryd.underlying3
theorem ke_grown {w w' : World} {b : Nat} (h : w.grownBy w' (some b)) : Ke (· = b) w w' := ⟨h.os, h.tape, h.output, h.size, fun k hk hG => h.block k hk (fun e => hG (Option.some.inj e))⟩
theorem i64_wf {n : Int} (h : -9223372036854775808 ≤ n ∧ n ≤ 9223372036854775807) : (Lit.int .i64 n).wf = true := by
  simp only [Lit.wf, IntKind.min, IntKind.max, IntKind.signed, IntKind.bits, Bool.and_eq_true, decide_eq_true_eq]
  simp
  omega
def condD : DataW Unit := ((((((((((((((((DataW.map []).put (.int .i64 0) (.lit (.string (⟨#[77, 73]⟩ : ByteArray).data.toList))).put (.int .i64 1) (.lit (.string (⟨#[69, 81]⟩ : ByteArray).data.toList))).put (.int .i64 2) (.lit (.string (⟨#[67, 83]⟩ : ByteArray).data.toList))).put (.int .i64 3) (.lit (.string (⟨#[86, 83]⟩ : ByteArray).data.toList))).put (.int .i64 4) (.lit (.string (⟨#[76, 83]⟩ : ByteArray).data.toList))).put (.int .i64 5) (.lit (.string (⟨#[76, 84]⟩ : ByteArray).data.toList))).put (.int .i64 6) (.lit (.string (⟨#[76, 69]⟩ : ByteArray).data.toList))).put (.int .i64 7) (.lit (.string (⟨#[84]⟩ : ByteArray).data.toList))).put (.int .i64 8) (.lit (.string (⟨#[80, 76]⟩ : ByteArray).data.toList))).put (.int .i64 9) (.lit (.string (⟨#[78, 69]⟩ : ByteArray).data.toList))).put (.int .i64 10) (.lit (.string (⟨#[67, 67]⟩ : ByteArray).data.toList))).put (.int .i64 11) (.lit (.string (⟨#[86, 67]⟩ : ByteArray).data.toList))).put (.int .i64 12) (.lit (.string (⟨#[72, 73]⟩ : ByteArray).data.toList))).put (.int .i64 13) (.lit (.string (⟨#[71, 69]⟩ : ByteArray).data.toList))).put (.int .i64 14) (.lit (.string (⟨#[71, 84]⟩ : ByteArray).data.toList))).put (.int .i64 15) (.lit (.string (⟨#[70]⟩ : ByteArray).data.toList))
def condL : List ByteArray := [⟨#[77, 73]⟩, ⟨#[69, 81]⟩, ⟨#[67, 83]⟩, ⟨#[86, 83]⟩, ⟨#[76, 83]⟩, ⟨#[76, 84]⟩, ⟨#[76, 69]⟩, ⟨#[84]⟩, ⟨#[80, 76]⟩, ⟨#[78, 69]⟩, ⟨#[67, 67]⟩, ⟨#[86, 67]⟩, ⟨#[72, 73]⟩, ⟨#[71, 69]⟩, ⟨#[71, 84]⟩, ⟨#[70]⟩]
def condN (n : Int) : ByteArray := if 0 ≤ n ∧ n < 16 then condL.getD n.toNat ⟨#[]⟩ else ⟨#[]⟩
theorem cond_at (n : Int) : condD.atKey (.int .i64 n) (.lit (.string [])) = .lit (.string (condN n).data.toList) := by
  by_cases h : 0 ≤ n ∧ n < 16
  · obtain ⟨k, rfl⟩ := Int.eq_ofNat_of_zero_le h.1
    have hk : k < 16 := by omega
    match k, hk with
    | 0, _ | 1, _ | 2, _ | 3, _ | 4, _ | 5, _ | 6, _ | 7, _ | 8, _ | 9, _ | 10, _ | 11, _ | 12, _ | 13, _ | 14, _ | 15, _ => rfl
    | k + 16, hk => exact absurd hk (by omega)
  · have e : condN n = ⟨#[]⟩ := if_neg h
    rw [e]
    have hd : ∀ k : Int, 0 ≤ k → k < 16 → (k = n) = False := fun k h1 h2 => by simp; omega
    have hd2 : ∀ k : Int, 0 ≤ k → k < 16 → (n = k) = False := fun k h1 h2 => by simp; omega
    unfold condD
    simp [DataW.put, DataW.atKey, DataW.insert, Lit.sameKey, Lit.before, List.find?, hd, hd2]

set_option maxRecDepth 20000 in
set_option maxHeartbeats 4000000 in
theorem cond_walk (n : Int) (w : World) (hn : -9223372036854775808 ≤ n ∧ n ≤ 9223372036854775807) : Calls Tryd.prog 10 #[.int .i64 n] w fun e w' => e = .returned (.string (condN n)) ∧ Below w.heap.size w w' := by
  have hm0 := World.ownsMap_made w Tryd.prog 3 rstr
  have hb0 : Ke (· = w.heap.size) w (w.alloc (.map #[] 0)) := Ke.below _ (bel1 w _)
  have HN := Lib.hid hn
  have hmm := @run_makeMap Tryd.prog
  have hfd : ∀ (s : ByteArray) (w : World), (Instr.field 48 (.agg #[.string s]) 0).run Tryd.prog w = .ok (.string s) w := fun s w => by kernel_rfl
  clear hn
  go_enter Tryd.func10, Tryd.ntmps10
  have f_0 : True := trivial
  have f_1 : True := trivial
  have f_2 : True := trivial
  have f_3 : True := trivial
  have f_4 : True := trivial
  have f_5 : True := trivial
  have f_6 : True := trivial
  have f_7 : True := trivial
  have f_8 : True := trivial
  have f_9 : True := trivial
  have f_10 : True := trivial
  have f_11 : True := trivial
  have f_12 : True := trivial
  have f_13 : True := trivial
  have f_14 : True := trivial
  have f_15 : True := trivial
  go_wp2_with (first | (have _f := f_0; refine insert_own _ rfl (.tmp 4) (.const (.int .i64 0)) (.tmp 5) 49 rfl 3 48 ikey Tryd.underlying49 w.heap.size 0 _ rfl hm0 (by decide) _ _ (.int .i64 0) rfl rfl (keyOf_int_mk Tryd.underlying3 (by decide)) _ _ rfl ?_; intro w1 hm1 hg1; have hb1 := hb0.trans (ke_grown hg1); clear _f f_0 hg1 hm0 hb0) | (have _f := f_1; refine insert_own _ rfl (.tmp 4) (.const (.int .i64 1)) (.tmp 6) 49 rfl 3 48 ikey Tryd.underlying49 w.heap.size 1 _ rfl hm1 (by decide) _ _ (.int .i64 1) rfl rfl (keyOf_int_mk Tryd.underlying3 (by decide)) _ _ rfl ?_; intro w2 hm2 hg2; have hb2 := hb1.trans (ke_grown hg2); clear _f f_1 hg2 hm1 hb1) | (have _f := f_2; refine insert_own _ rfl (.tmp 4) (.const (.int .i64 2)) (.tmp 7) 49 rfl 3 48 ikey Tryd.underlying49 w.heap.size 2 _ rfl hm2 (by decide) _ _ (.int .i64 2) rfl rfl (keyOf_int_mk Tryd.underlying3 (by decide)) _ _ rfl ?_; intro w3 hm3 hg3; have hb3 := hb2.trans (ke_grown hg3); clear _f f_2 hg3 hm2 hb2) | (have _f := f_3; refine insert_own _ rfl (.tmp 4) (.const (.int .i64 3)) (.tmp 8) 49 rfl 3 48 ikey Tryd.underlying49 w.heap.size 3 _ rfl hm3 (by decide) _ _ (.int .i64 3) rfl rfl (keyOf_int_mk Tryd.underlying3 (by decide)) _ _ rfl ?_; intro w4 hm4 hg4; have hb4 := hb3.trans (ke_grown hg4); clear _f f_3 hg4 hm3 hb3) | (have _f := f_4; refine insert_own _ rfl (.tmp 4) (.const (.int .i64 4)) (.tmp 9) 49 rfl 3 48 ikey Tryd.underlying49 w.heap.size 4 _ rfl hm4 (by decide) _ _ (.int .i64 4) rfl rfl (keyOf_int_mk Tryd.underlying3 (by decide)) _ _ rfl ?_; intro w5 hm5 hg5; have hb5 := hb4.trans (ke_grown hg5); clear _f f_4 hg5 hm4 hb4) | (have _f := f_5; refine insert_own _ rfl (.tmp 4) (.const (.int .i64 5)) (.tmp 10) 49 rfl 3 48 ikey Tryd.underlying49 w.heap.size 5 _ rfl hm5 (by decide) _ _ (.int .i64 5) rfl rfl (keyOf_int_mk Tryd.underlying3 (by decide)) _ _ rfl ?_; intro w6 hm6 hg6; have hb6 := hb5.trans (ke_grown hg6); clear _f f_5 hg6 hm5 hb5) | (have _f := f_6; refine insert_own _ rfl (.tmp 4) (.const (.int .i64 6)) (.tmp 11) 49 rfl 3 48 ikey Tryd.underlying49 w.heap.size 6 _ rfl hm6 (by decide) _ _ (.int .i64 6) rfl rfl (keyOf_int_mk Tryd.underlying3 (by decide)) _ _ rfl ?_; intro w7 hm7 hg7; have hb7 := hb6.trans (ke_grown hg7); clear _f f_6 hg7 hm6 hb6) | (have _f := f_7; refine insert_own _ rfl (.tmp 4) (.const (.int .i64 7)) (.tmp 12) 49 rfl 3 48 ikey Tryd.underlying49 w.heap.size 7 _ rfl hm7 (by decide) _ _ (.int .i64 7) rfl rfl (keyOf_int_mk Tryd.underlying3 (by decide)) _ _ rfl ?_; intro w8 hm8 hg8; have hb8 := hb7.trans (ke_grown hg8); clear _f f_7 hg8 hm7 hb7) | (have _f := f_8; refine insert_own _ rfl (.tmp 4) (.const (.int .i64 8)) (.tmp 13) 49 rfl 3 48 ikey Tryd.underlying49 w.heap.size 8 _ rfl hm8 (by decide) _ _ (.int .i64 8) rfl rfl (keyOf_int_mk Tryd.underlying3 (by decide)) _ _ rfl ?_; intro w9 hm9 hg9; have hb9 := hb8.trans (ke_grown hg9); clear _f f_8 hg9 hm8 hb8) | (have _f := f_9; refine insert_own _ rfl (.tmp 4) (.const (.int .i64 9)) (.tmp 14) 49 rfl 3 48 ikey Tryd.underlying49 w.heap.size 9 _ rfl hm9 (by decide) _ _ (.int .i64 9) rfl rfl (keyOf_int_mk Tryd.underlying3 (by decide)) _ _ rfl ?_; intro w10 hm10 hg10; have hb10 := hb9.trans (ke_grown hg10); clear _f f_9 hg10 hm9 hb9) | (have _f := f_10; refine insert_own _ rfl (.tmp 4) (.const (.int .i64 10)) (.tmp 15) 49 rfl 3 48 ikey Tryd.underlying49 w.heap.size 10 _ rfl hm10 (by decide) _ _ (.int .i64 10) rfl rfl (keyOf_int_mk Tryd.underlying3 (by decide)) _ _ rfl ?_; intro w11 hm11 hg11; have hb11 := hb10.trans (ke_grown hg11); clear _f f_10 hg11 hm10 hb10) | (have _f := f_11; refine insert_own _ rfl (.tmp 4) (.const (.int .i64 11)) (.tmp 16) 49 rfl 3 48 ikey Tryd.underlying49 w.heap.size 11 _ rfl hm11 (by decide) _ _ (.int .i64 11) rfl rfl (keyOf_int_mk Tryd.underlying3 (by decide)) _ _ rfl ?_; intro w12 hm12 hg12; have hb12 := hb11.trans (ke_grown hg12); clear _f f_11 hg12 hm11 hb11) | (have _f := f_12; refine insert_own _ rfl (.tmp 4) (.const (.int .i64 12)) (.tmp 17) 49 rfl 3 48 ikey Tryd.underlying49 w.heap.size 12 _ rfl hm12 (by decide) _ _ (.int .i64 12) rfl rfl (keyOf_int_mk Tryd.underlying3 (by decide)) _ _ rfl ?_; intro w13 hm13 hg13; have hb13 := hb12.trans (ke_grown hg13); clear _f f_12 hg13 hm12 hb12) | (have _f := f_13; refine insert_own _ rfl (.tmp 4) (.const (.int .i64 13)) (.tmp 18) 49 rfl 3 48 ikey Tryd.underlying49 w.heap.size 13 _ rfl hm13 (by decide) _ _ (.int .i64 13) rfl rfl (keyOf_int_mk Tryd.underlying3 (by decide)) _ _ rfl ?_; intro w14 hm14 hg14; have hb14 := hb13.trans (ke_grown hg14); clear _f f_13 hg14 hm13 hb13) | (have _f := f_14; refine insert_own _ rfl (.tmp 4) (.const (.int .i64 14)) (.tmp 19) 49 rfl 3 48 ikey Tryd.underlying49 w.heap.size 14 _ rfl hm14 (by decide) _ _ (.int .i64 14) rfl rfl (keyOf_int_mk Tryd.underlying3 (by decide)) _ _ rfl ?_; intro w15 hm15 hg15; have hb15 := hb14.trans (ke_grown hg15); clear _f f_14 hg15 hm14 hb14) | (have _f := f_15; refine insert_own _ rfl (.tmp 4) (.const (.int .i64 15)) (.tmp 20) 49 rfl 3 48 ikey Tryd.underlying49 w.heap.size 15 _ rfl hm15 (by decide) _ _ (.int .i64 15) rfl rfl (keyOf_int_mk Tryd.underlying3 (by decide)) _ _ rfl ?_; intro w16 hm16 hg16; have hb16 := hb15.trans (ke_grown hg16); clear _f f_15 hg16 hm15 hb15; obtain ⟨v, ps, hrun, hv⟩ := hm16.lookup ikey Tryd.underlying49 (e := 48) (z := .agg #[.string ⟨#[]⟩]) (by kernel_rfl) (zd := .lit (.string [])) (zp := []) rfl (keyOf_int_mk Tryd.underlying3 (i64_wf HN.out)); have hv' : rstr v = some (condD.atKey (.int .i64 n) (.lit (.string [])), ps) := hv; rw [cond_at] at hv'; have e := rstr_inv hv'; subst e; have HB := Lib.hid (hb16.toBelow (fun i hi e => absurd e (Nat.ne_of_lt hi))); clear hv hv' hm16 hb16))
  go_ret
  exact ⟨rfl, HB.out⟩

def opD : DataW Unit := ((((((((((((DataW.map []).put (.int .i64 0) (.lit (.string (⟨#[77, 79, 86]⟩ : ByteArray).data.toList))).put (.int .i64 1) (.lit (.string (⟨#[76, 83, 76]⟩ : ByteArray).data.toList))).put (.int .i64 2) (.lit (.string (⟨#[65, 83, 82]⟩ : ByteArray).data.toList))).put (.int .i64 3) (.lit (.string (⟨#[82, 79, 82]⟩ : ByteArray).data.toList))).put (.int .i64 4) (.lit (.string (⟨#[65, 78, 68]⟩ : ByteArray).data.toList))).put (.int .i64 5) (.lit (.string (⟨#[65, 78, 78]⟩ : ByteArray).data.toList))).put (.int .i64 6) (.lit (.string (⟨#[73, 79, 82]⟩ : ByteArray).data.toList))).put (.int .i64 7) (.lit (.string (⟨#[88, 79, 82]⟩ : ByteArray).data.toList))).put (.int .i64 8) (.lit (.string (⟨#[65, 68, 68]⟩ : ByteArray).data.toList))).put (.int .i64 9) (.lit (.string (⟨#[83, 85, 66]⟩ : ByteArray).data.toList))).put (.int .i64 10) (.lit (.string (⟨#[77, 85, 76]⟩ : ByteArray).data.toList))).put (.int .i64 11) (.lit (.string (⟨#[68, 73, 86]⟩ : ByteArray).data.toList))
def opL : List ByteArray := [⟨#[77, 79, 86]⟩, ⟨#[76, 83, 76]⟩, ⟨#[65, 83, 82]⟩, ⟨#[82, 79, 82]⟩, ⟨#[65, 78, 68]⟩, ⟨#[65, 78, 78]⟩, ⟨#[73, 79, 82]⟩, ⟨#[88, 79, 82]⟩, ⟨#[65, 68, 68]⟩, ⟨#[83, 85, 66]⟩, ⟨#[77, 85, 76]⟩, ⟨#[68, 73, 86]⟩]
def opN (n : Int) : ByteArray := if 0 ≤ n ∧ n < 12 then opL.getD n.toNat ⟨#[]⟩ else ⟨#[]⟩
theorem op_at (n : Int) : opD.atKey (.int .i64 n) (.lit (.string [])) = .lit (.string (opN n).data.toList) := by
  by_cases h : 0 ≤ n ∧ n < 12
  · obtain ⟨k, rfl⟩ := Int.eq_ofNat_of_zero_le h.1
    have hk : k < 12 := by omega
    match k, hk with
    | 0, _ | 1, _ | 2, _ | 3, _ | 4, _ | 5, _ | 6, _ | 7, _ | 8, _ | 9, _ | 10, _ | 11, _ => rfl
    | k + 12, hk => exact absurd hk (by omega)
  · have e : opN n = ⟨#[]⟩ := if_neg h
    rw [e]
    have hd : ∀ k : Int, 0 ≤ k → k < 12 → (k = n) = False := fun k h1 h2 => by simp; omega
    have hd2 : ∀ k : Int, 0 ≤ k → k < 12 → (n = k) = False := fun k h1 h2 => by simp; omega
    unfold opD
    simp [DataW.put, DataW.atKey, DataW.insert, Lit.sameKey, Lit.before, List.find?, hd, hd2]

set_option maxRecDepth 20000 in
set_option maxHeartbeats 4000000 in
theorem op_walk (n : Int) (w : World) (hn : -9223372036854775808 ≤ n ∧ n ≤ 9223372036854775807) : Calls Tryd.prog 11 #[.int .i64 n] w fun e w' => e = .returned (.string (opN n)) ∧ Below w.heap.size w w' := by
  have hm0 := World.ownsMap_made w Tryd.prog 3 rstr
  have hb0 : Ke (· = w.heap.size) w (w.alloc (.map #[] 0)) := Ke.below _ (bel1 w _)
  have HN := Lib.hid hn
  have hmm := @run_makeMap Tryd.prog
  have hfd : ∀ (s : ByteArray) (w : World), (Instr.field 48 (.agg #[.string s]) 0).run Tryd.prog w = .ok (.string s) w := fun s w => by kernel_rfl
  clear hn
  go_enter Tryd.func11, Tryd.ntmps11
  have f_0 : True := trivial
  have f_1 : True := trivial
  have f_2 : True := trivial
  have f_3 : True := trivial
  have f_4 : True := trivial
  have f_5 : True := trivial
  have f_6 : True := trivial
  have f_7 : True := trivial
  have f_8 : True := trivial
  have f_9 : True := trivial
  have f_10 : True := trivial
  have f_11 : True := trivial
  go_wp2_with (first | (have _f := f_0; refine insert_own _ rfl (.tmp 4) (.const (.int .i64 0)) (.tmp 5) 49 rfl 3 48 ikey Tryd.underlying49 w.heap.size 0 _ rfl hm0 (by decide) _ _ (.int .i64 0) rfl rfl (keyOf_int_mk Tryd.underlying3 (by decide)) _ _ rfl ?_; intro w1 hm1 hg1; have hb1 := hb0.trans (ke_grown hg1); clear _f f_0 hg1 hm0 hb0) | (have _f := f_1; refine insert_own _ rfl (.tmp 4) (.const (.int .i64 1)) (.tmp 6) 49 rfl 3 48 ikey Tryd.underlying49 w.heap.size 1 _ rfl hm1 (by decide) _ _ (.int .i64 1) rfl rfl (keyOf_int_mk Tryd.underlying3 (by decide)) _ _ rfl ?_; intro w2 hm2 hg2; have hb2 := hb1.trans (ke_grown hg2); clear _f f_1 hg2 hm1 hb1) | (have _f := f_2; refine insert_own _ rfl (.tmp 4) (.const (.int .i64 2)) (.tmp 7) 49 rfl 3 48 ikey Tryd.underlying49 w.heap.size 2 _ rfl hm2 (by decide) _ _ (.int .i64 2) rfl rfl (keyOf_int_mk Tryd.underlying3 (by decide)) _ _ rfl ?_; intro w3 hm3 hg3; have hb3 := hb2.trans (ke_grown hg3); clear _f f_2 hg3 hm2 hb2) | (have _f := f_3; refine insert_own _ rfl (.tmp 4) (.const (.int .i64 3)) (.tmp 8) 49 rfl 3 48 ikey Tryd.underlying49 w.heap.size 3 _ rfl hm3 (by decide) _ _ (.int .i64 3) rfl rfl (keyOf_int_mk Tryd.underlying3 (by decide)) _ _ rfl ?_; intro w4 hm4 hg4; have hb4 := hb3.trans (ke_grown hg4); clear _f f_3 hg4 hm3 hb3) | (have _f := f_4; refine insert_own _ rfl (.tmp 4) (.const (.int .i64 4)) (.tmp 9) 49 rfl 3 48 ikey Tryd.underlying49 w.heap.size 4 _ rfl hm4 (by decide) _ _ (.int .i64 4) rfl rfl (keyOf_int_mk Tryd.underlying3 (by decide)) _ _ rfl ?_; intro w5 hm5 hg5; have hb5 := hb4.trans (ke_grown hg5); clear _f f_4 hg5 hm4 hb4) | (have _f := f_5; refine insert_own _ rfl (.tmp 4) (.const (.int .i64 5)) (.tmp 10) 49 rfl 3 48 ikey Tryd.underlying49 w.heap.size 5 _ rfl hm5 (by decide) _ _ (.int .i64 5) rfl rfl (keyOf_int_mk Tryd.underlying3 (by decide)) _ _ rfl ?_; intro w6 hm6 hg6; have hb6 := hb5.trans (ke_grown hg6); clear _f f_5 hg6 hm5 hb5) | (have _f := f_6; refine insert_own _ rfl (.tmp 4) (.const (.int .i64 6)) (.tmp 11) 49 rfl 3 48 ikey Tryd.underlying49 w.heap.size 6 _ rfl hm6 (by decide) _ _ (.int .i64 6) rfl rfl (keyOf_int_mk Tryd.underlying3 (by decide)) _ _ rfl ?_; intro w7 hm7 hg7; have hb7 := hb6.trans (ke_grown hg7); clear _f f_6 hg7 hm6 hb6) | (have _f := f_7; refine insert_own _ rfl (.tmp 4) (.const (.int .i64 7)) (.tmp 12) 49 rfl 3 48 ikey Tryd.underlying49 w.heap.size 7 _ rfl hm7 (by decide) _ _ (.int .i64 7) rfl rfl (keyOf_int_mk Tryd.underlying3 (by decide)) _ _ rfl ?_; intro w8 hm8 hg8; have hb8 := hb7.trans (ke_grown hg8); clear _f f_7 hg8 hm7 hb7) | (have _f := f_8; refine insert_own _ rfl (.tmp 4) (.const (.int .i64 8)) (.tmp 13) 49 rfl 3 48 ikey Tryd.underlying49 w.heap.size 8 _ rfl hm8 (by decide) _ _ (.int .i64 8) rfl rfl (keyOf_int_mk Tryd.underlying3 (by decide)) _ _ rfl ?_; intro w9 hm9 hg9; have hb9 := hb8.trans (ke_grown hg9); clear _f f_8 hg9 hm8 hb8) | (have _f := f_9; refine insert_own _ rfl (.tmp 4) (.const (.int .i64 9)) (.tmp 14) 49 rfl 3 48 ikey Tryd.underlying49 w.heap.size 9 _ rfl hm9 (by decide) _ _ (.int .i64 9) rfl rfl (keyOf_int_mk Tryd.underlying3 (by decide)) _ _ rfl ?_; intro w10 hm10 hg10; have hb10 := hb9.trans (ke_grown hg10); clear _f f_9 hg10 hm9 hb9) | (have _f := f_10; refine insert_own _ rfl (.tmp 4) (.const (.int .i64 10)) (.tmp 15) 49 rfl 3 48 ikey Tryd.underlying49 w.heap.size 10 _ rfl hm10 (by decide) _ _ (.int .i64 10) rfl rfl (keyOf_int_mk Tryd.underlying3 (by decide)) _ _ rfl ?_; intro w11 hm11 hg11; have hb11 := hb10.trans (ke_grown hg11); clear _f f_10 hg11 hm10 hb10) | (have _f := f_11; refine insert_own _ rfl (.tmp 4) (.const (.int .i64 11)) (.tmp 16) 49 rfl 3 48 ikey Tryd.underlying49 w.heap.size 11 _ rfl hm11 (by decide) _ _ (.int .i64 11) rfl rfl (keyOf_int_mk Tryd.underlying3 (by decide)) _ _ rfl ?_; intro w12 hm12 hg12; have hb12 := hb11.trans (ke_grown hg12); clear _f f_11 hg12 hm11 hb11; obtain ⟨v, ps, hrun, hv⟩ := hm12.lookup ikey Tryd.underlying49 (e := 48) (z := .agg #[.string ⟨#[]⟩]) (by kernel_rfl) (zd := .lit (.string [])) (zp := []) rfl (keyOf_int_mk Tryd.underlying3 (i64_wf HN.out)); have hv' : rstr v = some (opD.atKey (.int .i64 n) (.lit (.string [])), ps) := hv; rw [op_at] at hv'; have e := rstr_inv hv'; subst e; have HB := Lib.hid (hb12.toBelow (fun i hi e => absurd e (Nat.ne_of_lt hi))); clear hv hv' hm12 hb12))
  go_ret
  exact ⟨rfl, HB.out⟩

end Go.Proofs.YtmnmbpenonodiaaDoor
