/- Contract: sign. -/
import Derived.Test.YtdgiijidgjagbaaScanText
import Derived.Test.YtdgiijidgjagbaaShelf
namespace Go.Proofs.Ytdgiijidgjagbaa
set_option linter.unusedVariables false
set_option linter.unusedSimpArgs false
open Go.RowKit Go.Maps

variable {F : Nat → Prop} {w w' : World} {g : Nat} {s : Sc} {a : Option Addr} {c : Nat} {n : Value} {m : Nat}

/-- a literal's entry. -/
theorem insert_own {P : Program} (w : World) {ops : Array Oper} {rest : List Oper} {o : Oper} {a : Act} {Q : Exit → Act → World → Prop} {R : Value → Option (DataW Unit × List MemPlace)}
    (hg : o.guard = none) (m x v : Operand) (t : TypeId) (hop : o.op = Op.insert t m x v)
    (k e : TypeId) (K : Keyed P k) (ht : P.underlying t = some (.map k e)) (b n : Nat) (D : DataW Unit)
    (hm : a.eval m = .map (some b)) (hown : w.ownsMap P k R b n D) (hn : n < maxLen) (key val : Value) (kl : Lit) (hx : a.eval x = key) (hv : a.eval v = val) (hkey : keyOf P k key = some kl)
    (d : DataW Unit) (ps : List MemPlace) (hval : R val = some (d, ps))
    (hK : ∀ w', w'.ownsMap P k R b (n + 1) (D.put kl d) → w.grownBy w' (some b) → wpList P ops Q rest (a.put o.dst undef) w') :
    wpList P ops Q (o :: rest) a w := by
  refine wpList_plain hg fun K' hK' => ?_
  obtain ⟨w', hrun, r1, r2⟩ := hown.update K ht hn hkey hval
  unfold Oper.wp
  simp [execOp, hop, hm, hx, hv, hrun, Result.andThen]
  exact hK' _ _ (hK w' r1 r2)

theorem Ke.grownB {w w' : World} {b : Nat} (h : w.grownBy w' (some b)) : Ke (· = b) w w' := ⟨h.os, h.tape, h.output, h.size, fun k hk hG => h.block k hk (fun e => hG (Option.some.inj e))⟩
theorem ukey : Keyed Try.prog 5 := int_keyed Try.underlying5
theorem u8_wf {b : Int} (h : 0 ≤ b ∧ b < 256) : (Lit.int .u8 b).wf = true := by
  simp only [Lit.wf, IntKind.min, IntKind.max, IntKind.signed, IntKind.bits, Bool.and_eq_true, decide_eq_true_eq]
  simp
  omega
def signD : DataW Unit := (((DataW.map []).put (.int .u8 60) (lit64 3)).put (.int .u8 62) (lit64 5)).put (.int .u8 58) (lit64 23)
theorem sign_at (b : Int) (k : Nat) (h : b = 60 ∧ k = 3 ∨ b = 62 ∧ k = 5 ∨ b = 58 ∧ k = 23) : signD.atKey (.int .u8 b) (.lit (.int .i64 0)) = lit64 k := by
  rcases h with ⟨rfl, rfl⟩ | ⟨rfl, rfl⟩ | ⟨rfl, rfl⟩ <;> rfl

def signsB : Bool := (List.range 256).all fun b => Lib.indexByte (Lib.bytesOf signs) (Nat.toUInt8 b) == if (b : Int) ∈ signs then ((signs.idxOf (b : Int) : Nat) : Int) else -1
theorem signs_all : signsB = true := by kernel_rfl
theorem signs_index {b : Int} (h0 : 0 ≤ b) (h1 : b < 256) : Lib.indexByte (Lib.bytesOf signs) b.toNat.toUInt8 = if b ∈ signs then ((signs.idxOf b : Nat) : Int) else -1 := by
  obtain ⟨k, rfl⟩ := Int.eq_ofNat_of_zero_le h0
  have h := signs_all
  unfold signsB at h
  have h2 := List.all_eq_true.1 h k (List.mem_range.2 (by omega))
  simpa using h2

def signIs (b : Int) (two : Bool) : Option Int :=
  if b = 60 then some (if two then 4 else 3) else if b = 62 then some (if two then 6 else 5) else if b = 58 then some (if two then 24 else 23) else none

set_option maxRecDepth 20000 in
set_option maxHeartbeats 8000000 in
theorem sign_two (H : ScnX F w g s a c n m) (hlt : s.at' < s.src.length) (b : Int) (k : Nat) (hk : b = 60 ∧ k = 3 ∨ b = 62 ∧ k = 5 ∨ b = 58 ∧ k = 23) (hb : s.src.getD s.at' 0 = b) :
    Calls Try.prog 35 #[.pointer (some ⟨g, 0, none⟩)] w (EndIs F w g s.sign a c m) := by
  have HH := Lib.hid H
  have HK := Lib.hid hk
  have HLT := Lib.hid hlt
  have HB := Lib.hid hb
  obtain ⟨⟨q1, q2⟩, ⟨q3, q4⟩, q5, q6, q7⟩ := wrapAt H.ok.le H.ok.len
  obtain ⟨v2, hv2⟩ : ∃ v2, s.src.getD (s.at' + 1) 0 = v2 := ⟨_, rfl⟩
  have HV2 := Lib.hid hv2
  have hkb : 0 ≤ b ∧ b < 256 := by rw [← hb]; exact H.ok.byte _
  have HKB := Lib.hid (u8_wf hkb)
  have HSA := Lib.hid (sign_at b k hk)
  have hb3 : (b == 60) = true ∨ (b == 60) = false ∧ (b == 62) = true ∨ (b == 60) = false ∧ (b == 62) = false ∧ (b == 58) = true := by
    rcases hk with ⟨rfl, _⟩ | ⟨rfl, _⟩ | ⟨rfl, _⟩ <;> simp
  have hkk : (0 : Int) ≤ k ∧ (k : Int) ≤ 23 := by omega
  obtain ⟨k1, k2⟩ := hkk
  have hmm := @run_makeMap Try.prog
  by_cases h61 : v2 = 61
  · have hn : s.sign = { s.to (s.at' + 2) with sym := { s.sym with sym := (k : Int) + 1 } } := by
      unfold Sc.sign
      rw [hb, hv2, h61]
      rcases hk with ⟨rfl, rfl⟩ | ⟨rfl, rfl⟩ | ⟨rfl, rfl⟩ <;> rfl
    have HN := Lib.hid hn
    have HLO := Lib.hid (show s.at' + 2 ≤ s.src.length by
      rcases Nat.lt_or_ge (s.at' + 1) s.src.length with h | h
      · exact h
      · rw [getD_end h] at hv2; omega)
    subst h61
    clear H hk hlt hb hv2 hkb hn
    rcases hb3 with t1 | ⟨t1, t2⟩ | ⟨t1, t2, t3⟩
    all_goals
      have f1 : True := trivial
      have f2 : True := trivial
      have f3 : True := trivial
      have f4 : True := trivial
      have f5 : True := trivial
      have g1 : True := trivial
      have g2 : True := trivial
      have g3 : True := trivial
      have g4 : True := trivial
      go_enter Try.func35, Try.ntmps35
      go_wp2_with (first | (have _f := f1; refine (ch_is HH.out b HB.out).mono ?_; rintro e w1 ⟨rfl, hb⟩; have hx1 := HH.out.bel hb; have HX1 := Lib.hid hx1; have HK1 := Lib.hid (Ke.below (· = g) hb); have c1 : w1.cell? ⟨g, 1, none⟩ = some (.int .i64 s.at') := (hx1.at'.cell 1).trans rfl; clear hb hx1 _f f1) | (have _f := f2; refine scn_store1 rfl 3 (.tmp 14) (.tmp 12) rfl HX1.out (s.to (s.at' + 1)) rfl rfl rfl (by kernel_rfl) rfl rfl rfl rfl HLT.out ?_; intro w2 h2 k2 z2; have HX2 := Lib.hid h2; have HK2 := Lib.hid (HK1.out.trans k2); clear h2 k2 z2 c1 _f f2) | (have _f := f3; refine (ch_is HX2.out 61 HV2.out).mono ?_; rintro e w3 ⟨rfl, hb⟩; have hx3 := HX2.out.bel hb; have HX3 := Lib.hid hx3; have HK3 := Lib.hid (ke_bel HK2.out hb); have d1 : w3.cell? ⟨g, 1, none⟩ = some (.int .i64 ((s.at' : Int) + 1)) := (hx3.at'.cell 1).trans rfl; clear hb hx3 _f f3) | (have _f := f4; refine scn_store1 rfl 3 (.tmp 40) (.tmp 38) rfl HX3.out (s.to (s.at' + 2)) rfl rfl rfl (by kernel_rfl) rfl rfl rfl rfl HLO.out ?_; intro w4 h2 k2 z2; have HX4 := Lib.hid h2; have HK4 := Lib.hid (HK3.out.trans k2); clear h2 k2 z2 d1 _f f4) | (have _f := g1; refine insert_own _ rfl (.tmp 41) (.const (.int .u8 60)) (.const (.int .i64 3)) 63 rfl 5 3 ukey Try.underlying63 _ 0 _ rfl (World.ownsMap_made _ _ _ (plainElem Try.prog 3)) (by decide) _ _ (.int .u8 60) rfl rfl (keyOf_int_mk Try.underlying5 (by decide)) (lit64 3) [] (plainElem_int Try.underlying3 (by decide)) ?_; intro v1 hm1 hg1; have hb1 := (Ke.below (· = w4.heap.size) (bel1 w4 _)).trans (Ke.grownB hg1); clear _f g1 hg1) | (have _f := g2; refine insert_own _ rfl (.tmp 41) (.const (.int .u8 62)) (.const (.int .i64 5)) 63 rfl 5 3 ukey Try.underlying63 _ 1 _ rfl hm1 (by decide) _ _ (.int .u8 62) rfl rfl (keyOf_int_mk Try.underlying5 (by decide)) (lit64 5) [] (plainElem_int Try.underlying3 (by decide)) ?_; intro v2 hm2 hg2; have hb2 := hb1.trans (Ke.grownB hg2); clear _f g2 hg2 hm1 hb1) | (have _f := g3; refine insert_own _ rfl (.tmp 41) (.const (.int .u8 58)) (.const (.int .i64 23)) 63 rfl 5 3 ukey Try.underlying63 _ 2 _ rfl hm2 (by decide) _ _ (.int .u8 58) rfl rfl (keyOf_int_mk Try.underlying5 (by decide)) (lit64 23) [] (plainElem_int Try.underlying3 (by decide)) ?_; intro v3 hm3 hg3; have hb3 := hb2.trans (Ke.grownB hg3); clear _f g3 hg3 hm2 hb2) | (have _f := g4; have hm3' : v3.ownsMap Try.prog 5 (plainElem Try.prog 3) _ 3 signD := hm3; refine wpList_lookup_own_int _ rfl (.tmp 42) (.tmp 43) 63 rfl 5 3 .i64 ukey Try.underlying63 Try.underlying3 (zero_int _) _ 3 signD rfl hm3' _ _ rfl (keyOf_int_mk Try.underlying5 HKB.out) ?_; intro cv hat hwc; obtain rfl := lit64_inv (HSA.out.symm.trans hat); have hbw := hb3.toBelow (fun i hi e => absurd e (Nat.ne_of_lt hi)); have HX5 := Lib.hid (HX4.out.bel hbw); have HK5 := Lib.hid (ke_bel HK4.out hbw); clear _f g4 hat hwc hm3 hm3' hb3 hbw) | (have _f := f5; refine scn_store1 rfl 3 (.tmp 57) (.tmp 54) rfl HX5.out { s.to (s.at' + 2) with sym := { s.sym with sym := (k : Int) + 1 } } rfl rfl rfl (by kernel_rfl) rfl rfl rfl rfl HX5.out.ok.le ?_; intro w6 h2 k2 z2; have HX6 := Lib.hid h2; have HK6 := Lib.hid (HK5.out.trans k2); clear h2 k2 z2 _f f5))
      go_end0
      exact ⟨rfl, ⟨n, by rw [HN.out]; exact HX6.out⟩, HH.out.off HK6.out⟩
  · have v61 : (v2 == 61) = false := by simpa using h61
    have hn : s.sign = { s.to (s.at' + 1) with sym := { s.sym with sym := (k : Int) } } := by
      unfold Sc.sign
      rw [hb, hv2, show decide (v2 = 61) = false from decide_eq_false h61]
      rcases hk with ⟨rfl, rfl⟩ | ⟨rfl, rfl⟩ | ⟨rfl, rfl⟩ <;> rfl
    have HN := Lib.hid hn
    clear H hk hlt hb hv2 hkb hn h61
    rcases hb3 with t1 | ⟨t1, t2⟩ | ⟨t1, t2, t3⟩
    all_goals
      have f1 : True := trivial
      have f2 : True := trivial
      have f3 : True := trivial
      have f4 : True := trivial
      have f5 : True := trivial
      have g1 : True := trivial
      have g2 : True := trivial
      have g3 : True := trivial
      have g4 : True := trivial
      go_enter Try.func35, Try.ntmps35
      go_wp2_with (first | (have _f := f1; refine (ch_is HH.out b HB.out).mono ?_; rintro e w1 ⟨rfl, hb⟩; have hx1 := HH.out.bel hb; have HX1 := Lib.hid hx1; have HK1 := Lib.hid (Ke.below (· = g) hb); have c1 : w1.cell? ⟨g, 1, none⟩ = some (.int .i64 s.at') := (hx1.at'.cell 1).trans rfl; clear hb hx1 _f f1) | (have _f := f2; refine scn_store1 rfl 3 (.tmp 14) (.tmp 12) rfl HX1.out (s.to (s.at' + 1)) rfl rfl rfl (by kernel_rfl) rfl rfl rfl rfl HLT.out ?_; intro w2 h2 k2 z2; have HX2 := Lib.hid h2; have HK2 := Lib.hid (HK1.out.trans k2); clear h2 k2 z2 c1 _f f2) | (have _f := f3; refine (ch_is HX2.out v2 HV2.out).mono ?_; rintro e w3 ⟨rfl, hb⟩; have hx3 := HX2.out.bel hb; have HX3 := Lib.hid hx3; have HK3 := Lib.hid (ke_bel HK2.out hb); have d1 : w3.cell? ⟨g, 1, none⟩ = some (.int .i64 ((s.at' : Int) + 1)) := (hx3.at'.cell 1).trans rfl; clear hb hx3 _f f3) | (have _f := g1; refine insert_own _ rfl (.tmp 41) (.const (.int .u8 60)) (.const (.int .i64 3)) 63 rfl 5 3 ukey Try.underlying63 _ 0 _ rfl (World.ownsMap_made _ _ _ (plainElem Try.prog 3)) (by decide) _ _ (.int .u8 60) rfl rfl (keyOf_int_mk Try.underlying5 (by decide)) (lit64 3) [] (plainElem_int Try.underlying3 (by decide)) ?_; intro v1 hm1 hg1; have hb1 := (Ke.below (· = w3.heap.size) (bel1 w3 _)).trans (Ke.grownB hg1); clear _f g1 hg1) | (have _f := g2; refine insert_own _ rfl (.tmp 41) (.const (.int .u8 62)) (.const (.int .i64 5)) 63 rfl 5 3 ukey Try.underlying63 _ 1 _ rfl hm1 (by decide) _ _ (.int .u8 62) rfl rfl (keyOf_int_mk Try.underlying5 (by decide)) (lit64 5) [] (plainElem_int Try.underlying3 (by decide)) ?_; intro v2 hm2 hg2; have hb2 := hb1.trans (Ke.grownB hg2); clear _f g2 hg2 hm1 hb1) | (have _f := g3; refine insert_own _ rfl (.tmp 41) (.const (.int .u8 58)) (.const (.int .i64 23)) 63 rfl 5 3 ukey Try.underlying63 _ 2 _ rfl hm2 (by decide) _ _ (.int .u8 58) rfl rfl (keyOf_int_mk Try.underlying5 (by decide)) (lit64 23) [] (plainElem_int Try.underlying3 (by decide)) ?_; intro v3 hm3 hg3; have hb3 := hb2.trans (Ke.grownB hg3); clear _f g3 hg3 hm2 hb2) | (have _f := g4; have hm3' : v3.ownsMap Try.prog 5 (plainElem Try.prog 3) _ 3 signD := hm3; refine wpList_lookup_own_int _ rfl (.tmp 42) (.tmp 43) 63 rfl 5 3 .i64 ukey Try.underlying63 Try.underlying3 (zero_int _) _ 3 signD rfl hm3' _ _ rfl (keyOf_int_mk Try.underlying5 HKB.out) ?_; intro cv hat hwc; obtain rfl := lit64_inv (HSA.out.symm.trans hat); have hbw := hb3.toBelow (fun i hi e => absurd e (Nat.ne_of_lt hi)); have HX5 := Lib.hid (HX3.out.bel hbw); have HK5 := Lib.hid (ke_bel HK3.out hbw); clear _f g4 hat hwc hm3 hm3' hb3 hbw) | (have _f := f5; refine scn_store1 rfl 3 (.tmp 57) (.tmp 54) rfl HX5.out { s.to (s.at' + 1) with sym := { s.sym with sym := (k : Int) } } rfl rfl rfl (by kernel_rfl) rfl rfl rfl rfl HX5.out.ok.le ?_; intro w6 h2 k2 z2; have HX6 := Lib.hid h2; have HK6 := Lib.hid (HK5.out.trans k2); clear h2 k2 z2 _f f5))
      go_end0
      exact ⟨rfl, ⟨n, by rw [HN.out]; exact HX6.out⟩, HH.out.off HK6.out⟩

end Go.Proofs.Ytdgiijidgjagbaa
