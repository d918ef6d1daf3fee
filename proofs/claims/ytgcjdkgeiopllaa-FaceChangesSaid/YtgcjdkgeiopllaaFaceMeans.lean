/- face's means: one step of its recursion. Printed by bin/gen_facemeans.py. -/
import Derived.Test.YtgcjdkgeiopllaaFaceTaken
import Derived.IntWalk
import Derived.Deep.DeepCutAuto
import Derived.Laws.EntriesVeiled
namespace Go.Proofs.Ytgcjdkgeiopllaa
set_option linter.unusedVariables false
set_option linter.unusedSimpArgs false
open Go.RowKit

theorem loads_midM {P : Program} {w : World} {b o : Nat} {cs : List Value} {ty : TypeId} {d : TypeDesc} (hc : ∀ (j : Nat) (v : Value), cs[j]? = some v → w.cell? ⟨b, o + j, none⟩ = some v) (hu : P.underlying ty = some d) (hd : d.isRow = true) (hi : (P.info? ty).map (·.size) = some cs.length) :
    (Instr.loadAt ty (.pointer (some ⟨b, o, none⟩))).run P w = .ok (.agg cs.toArray) w := by
  simp only [Instr.loadAt, Instr.sureAddr, Sem.run_bind, Sem.run_pure, Result.andThen_ok, run_loadVar_mid (P := P) w b o ty cs d hc hu hd hi]
theorem quiet_row3 {P : Program} {R : World → Prop} {K : Act → Prop} {a : Act} {o : Oper} (ty : TypeId) (x : Operand) (ho : o.op = .load ty x) {p : Addr} {v : Value} (hx : a.eval x = .pointer (some p))
    (hl : ∀ y : Later R, (Instr.loadAt ty (.pointer (some p))).run P y.w = .ok v y.w) (hk : K (a.put o.dst v)) : o.quiet P a (fun w' => ∃ y : Later R, w' = y.w) K :=
  ⟨_, fun w hw => by
    obtain ⟨y, rfl⟩ := hw
    unfold Oper.quietAt execOp
    simp only [ho, hx, Sem.run_bind, hl y, Result.andThen_ok]
    exact ⟨rfl, rfl⟩, hk⟩
theorem ke_cellM {G : Nat → Prop} {w w' : World} {p : Addr} {v : Value} (h : Ke G w w') (hp : p.block < w.heap.size) (hG : ¬ G p.block) (hv : w.cell? p = some v) : w'.cell? p = some v := by
  unfold World.cell? at hv ⊢
  rw [h.block p.block hp hG]; exact hv
theorem quiet_look {P : Program} {R : World → Prop} {K : Act → Prop} {a : Act} {o : Oper} (ty : TypeId) (x k : Operand) (ho : o.op = .lookup ty x k false) {m key v : Value} (hx : a.eval x = m) (hkk : a.eval k = key)
    (hl : ∀ y : Later R, (Instr.lookup ty m key false).run P y.w = .ok v y.w) (hk : K (a.put o.dst v)) : o.quiet P a (fun w' => ∃ y : Later R, w' = y.w) K :=
  ⟨_, fun w hw => by
    obtain ⟨y, rfl⟩ := hw
    unfold Oper.quietAt execOp
    simp only [ho, hx, hkk, Sem.run_bind, hl y, Result.andThen_ok]
    exact ⟨rfl, rfl⟩, hk⟩
theorem Ke.toBelow' {G : Nat → Prop} {w w' : World} {B : Nat} (h : Ke G w w') (hG : ∀ i, i < B → ¬ G i) (hB : B ≤ w.heap.size) : Below B w w' := ⟨h.os, h.tape, h.output, h.size, fun k hk => h.block k (Nat.lt_of_lt_of_le hk hB) (hG k hk)⟩
theorem Pr.put {x y : Fc} {w0 w w' : World} {gp Bm : Nat} {T : List (Nat × Nat)} {p : Nat × Nat} (h : Pr x y w0 w gp Bm T) (hm : SetMap w' Try.prog 99 Bm (T.length + 1) (twoQ (p :: T))) (hk : Ke (· = Bm) w w') : Pr x y w0 w' gp Bm (p :: T) :=
  ⟨h.bel.trans (hk.toBelow' (fun i hi e => by have := h.lm; omega) h.bel.size), h.pr.ke hk h.ne, h.lo, h.lm, hm⟩

def MEnd (x y : Fc) (w0 : World) (gp Bm : Nat) (T : List (Nat × Nat)) (rm ri sm si : Int) (w : World) (e : Ending) (w' : World) : Prop :=
  ∃ (ok : Bool) (T' : List (Nat × Nat)), e = .returned (.bool ok) ∧ MeansOut x.d y.d T ⟨rm, ri⟩ ⟨sm, si⟩ ok T' ∧ Pr x y w0 w' gp Bm T' ∧ Ke (· = Bm) w w'
def MeansC (x y : Fc) (w0 : World) (gp Bm N : Nat) : Prop := ∀ (T : List (Nat × Nat)) (rm ri sm si : Int) (w : World), Tk x.d y.d T → x.d.types.length * y.d.types.length < T.length + N → Leads x.d ⟨rm, ri⟩ → Leads y.d ⟨sm, si⟩ → Pr x y w0 w gp Bm T →
  Calls Try.prog 32 #[.pointer (some ⟨gp, 0, none⟩), .agg #[.int .i64 rm, .int .i64 ri], .agg #[.int .i64 sm, .int .i64 si]] w (MEnd x y w0 gp Bm T rm ri sm si w)
def FieldsAlike (a b : FD) (fl gl : List Fld) : Prop := fl.length = gl.length ∧ ∀ (k : Nat) (f g : Fld), fl[k]? = some f → gl[k]? = some g → f.name = g.name ∧ f.off = g.off ∧ onceP a b (Alike a b) f.base g.base
def FldI (x y : Fc) (w0 wc : World) (gp Bm gq : Nat) (T1 : List (Nat × Nat)) (fl gl : List Fld) (k : Nat) (W : World) : Prop :=
  ∃ T', Pr x y w0 W gp Bm T' ∧ Grew x.d y.d T1 T' ∧ Holds x.d y.d T1 T' ∧ (∀ (q : Nat) (f g : Fld), q < k → fl[q]? = some f → gl[q]? = some g → f.name = g.name ∧ f.off = g.off ∧ onceP x.d y.d (inT T') f.base g.base) ∧ Ke (· = Bm) wc W ∧ At W gq #[.pointer (some ⟨gp, 0, none⟩)] 54
def FldK (x y : Fc) (w0 wc : World) (gp Bm : Nat) (T1 : List (Nat × Nat)) (fl gl : List Fld) (W : World) : Prop :=
  (∃ T', Pr x y w0 W gp Bm T' ∧ Grew x.d y.d T1 T') ∧ ¬ FieldsAlike x.d y.d fl gl ∧ Ke (· = Bm) wc W

set_option maxRecDepth 100000 in
set_option maxHeartbeats 4000000 in
theorem fldclo_walk {x y : Fc} {w0 wc : World} {gp Bm N gq k : Nat} {T1 : List (Nat × Nat)} {fl gl : List Fld} (ih : MeansC x y w0 gp Bm N) (hfu : x.d.types.length * y.d.types.length < T1.length + N)
    (hlx : ∀ f ∈ fl, Leads x.d f.base) (hly : ∀ f ∈ gl, Leads y.d f.base) {fn gn : ByteArray} {fo fm fi go gm gi : Int} (hf : fl[k]? = some ⟨fn, fo, ⟨fm, fi⟩⟩) (hg : gl[k]? = some ⟨gn, go, ⟨gm, gi⟩⟩) (W : World) (hI : FldI x y w0 wc gp Bm gq T1 fl gl k W) :
    Calls Try.prog 49 #[.agg #[.string fn, .int .i64 fo, .int .i64 fm, .int .i64 fi], .agg #[.string gn, .int .i64 go, .int .i64 gm, .int .i64 gi], .pointer (some ⟨gq, 0, none⟩)] W (EqEnd (k + 1) (FldI x y w0 wc gp Bm gq T1 fl gl) (FldK x y w0 wc gp Bm T1 fl gl)) := by
  obtain ⟨T', hP, hG, hH, hF, hK, hA⟩ := hI
  have HIH := Lib.hid (ih T' fm fi gm gi)
  have HF0 := Lib.hid hF
  have HH := Lib.hid hH
  have HG := Lib.hid hG
  have HFG := Lib.hid (And.intro hf hg)
  have HLX := Lib.hid (hlx _ (List.mem_of_getElem? hf))
  have HLY := Lib.hid (hly _ (List.mem_of_getElem? hg))
  have HFU : Hid (x.d.types.length * y.d.types.length < T'.length + N) := Lib.hid (by have := hG.le; omega)
  have HNE : Hid (gq ≠ Bm) := Lib.hid (hP.nm hA)
  have HKC := Lib.hid hK
  have HPW := Lib.hid hP
  have HAQ := Lib.hid hA
  have bF := bel2 W (.cells #[.string fn, .int .i64 fo, .int .i64 fm, .int .i64 fi] 78) (.cells #[.string gn, .int .i64 go, .int .i64 gm, .int .i64 gi] 78)
  have HP0 := Lib.hid (hP.on bF)
  have HA0 := Lib.hid (hA.bel bF)
  have HB0 := Lib.hid bF
  have HGF : Hid (At ((W.alloc (.cells #[.string fn, .int .i64 fo, .int .i64 fm, .int .i64 fi] 78)).alloc (.cells #[.string gn, .int .i64 go, .int .i64 gm, .int .i64 gi] 78)) W.heap.size #[.string fn, .int .i64 fo, .int .i64 fm, .int .i64 fi] 78) := Lib.hid ((At.new W _ _).old _)
  have HGG : Hid (At ((W.alloc (.cells #[.string fn, .int .i64 fo, .int .i64 fm, .int .i64 fi] 78)).alloc (.cells #[.string gn, .int .i64 go, .int .i64 gm, .int .i64 gi] 78)) (W.heap.size + 1) #[.string gn, .int .i64 go, .int .i64 gm, .int .i64 gi] 78) := Lib.hid (by have := At.new (W.alloc (.cells #[.string fn, .int .i64 fo, .int .i64 fm, .int .i64 fi] 78)) #[.string gn, .int .i64 go, .int .i64 gm, .int .i64 gi] 78; rwa [show (W.alloc (.cells #[.string fn, .int .i64 fo, .int .i64 fm, .int .i64 fi] 78)).heap.size = W.heap.size + 1 by simp] at this)
  have HKN : Hid (¬ (fn = gn ∧ fo = go) → FldK x y w0 wc gp Bm T1 fl gl ((W.alloc (.cells #[.string fn, .int .i64 fo, .int .i64 fm, .int .i64 fi] 78)).alloc (.cells #[.string gn, .int .i64 go, .int .i64 gm, .int .i64 gi] 78))) := Lib.hid (fun hn => ⟨⟨T', HP0.out, HG.out⟩, fun q => hn (by obtain ⟨a1, a2, _⟩ := q.2 k _ _ HFG.out.1 HFG.out.2; exact ⟨a1, a2⟩), HKC.out.trans (Ke.below _ HB0.out)⟩)
  have gq0 := (HA0.out.cell 0).trans (show _ = some (.pointer (some ⟨gp, 0, none⟩)) from rfl)
  clear ih hP hG hH hF hK hA hf hg hlx hly hfu bF
  by_cases hn : fn = gn
  rotate_left
  · have hq := str_other hn
    have HE := Lib.hid (HKN.out (fun q => hn q.1))
    clear hn
    go_enter Try.func49, Try.ntmps49
    go_wp2_with (fail)
    go_ret
    exact .inr ⟨rfl, HE.out⟩
  by_cases ho : fo = go
  rotate_left
  · have hq := str_same hn
    have hq2 : (fo == go) = false := by rw [beq_eq_false_iff_ne]; exact ho
    have HE := Lib.hid (HKN.out (fun q => ho q.2))
    clear hn ho
    go_enter Try.func49, Try.ntmps49
    go_wp2_with (fail)
    go_ret
    exact .inr ⟨rfl, HE.out⟩
  have HNO := Lib.hid (And.intro hn ho)
  have hq := str_same hn
  have hq2 : (fo == go) = true := by rw [ho, beq_self_eq_true]
  clear hn ho HKN
  go_enter Try.func49, Try.ntmps49
  have fl1 : True := trivial
  have fl2 : True := trivial
  go_wp2_with (first | (have _f := fl2; refine (HIH.out _ HG.out.tk HFU.out HLX.out HLY.out HP0.out).mono ?_; rintro e w1 ⟨ok, T2, rfl, hm, hp, hk⟩; have HM := Lib.hid hm; have HP2 := Lib.hid hp; have HK2 := Lib.hid hk; clear hm hp hk; clear _f fl2))
  go_ret
  cases ok
  · refine .inr ⟨rfl, ⟨T2, HP2.out, HG.out.trans HM.out.1⟩, fun q => HM.out.2.2 rfl (q.2 k _ _ HFG.out.1 HFG.out.2).2.2, (HKC.out.trans (Ke.below _ HB0.out)).trans HK2.out⟩
  · obtain ⟨h1, h2⟩ := HM.out.2.1 rfl
    refine .inl ⟨rfl, T2, HP2.out, HG.out.trans HM.out.1, HH.out.trans HM.out.1 h2, fun q f g hq hf hg => ?_, (HKC.out.trans (Ke.below _ HB0.out)).trans HK2.out, HA0.out.ke HK2.out HNE.out⟩
    rcases Nat.lt_or_ge q k with h | h
    · obtain ⟨a1, a2, a3⟩ := HF0.out q f g h hf hg
      exact ⟨a1, a2, once_mono (inT_mono HM.out.1) a3⟩
    · obtain rfl : q = k := by omega
      rw [HFG.out.1] at hf; rw [HFG.out.2] at hg
      cases hf; cases hg
      exact ⟨HNO.out.1, HNO.out.2, h1⟩

theorem leads_bd {f : FD} (h : mayFace f = true) {r : Rf} (hr : Leads f r) : (0 ≤ r.mod ∧ r.mod ≤ 12) ∧ 0 ≤ r.idx ∧ r.idx ≤ 255 := by
  have hi : f.imps.length ≤ 12 := by
    unfold mayFace at h
    simp only [Bool.and_eq_true] at h
    have h := h.1.1.1
    unfold mayImps at h
    simp only [Bool.and_eq_true, decide_eq_true_eq] at h
    exact h.2
  rcases hr with hr | hr
  · have := of_decide_eq_true hr; omega
  · have := of_decide_eq_true hr
    unfold refP at this
    rw [env_ni8] at this; omega
theorem may_types {f : FD} (h : mayFace f = true) : f.types.length ≤ 200 := by
  unfold mayFace at h
  simp only [Bool.and_eq_true, decide_eq_true_eq] at h
  exact h.1.1.2.1
theorem fields_le {f : FD} (h : mayFace f = true) {x : TD} (hx : x ∈ f.types) : x.fields.length ≤ 1000000 := by
  unfold mayFace at h
  simp only [Bool.and_eq_true, List.all_eq_true] at h
  have h := h.1.2 x hx
  unfold mayTypeB at h
  split at h
  · simp only [Bool.and_eq_true, decide_eq_true_eq] at h; omega
  · split at h
    · simp only [Bool.and_eq_true, decide_eq_true_eq] at h; omega
    · split at h
      · simp only [Bool.and_eq_true, decide_eq_true_eq] at h; omega
      · cases h
theorem types_get {x : Fc} {i : Nat} {t : FT} (h : x.types.l[i]? = some t) : x.d.types[i]? = some t.d := by
  show (x.types.l.map FT.d)[i]? = _
  rw [List.getElem?_map, h]; rfl
theorem types_len (x : Fc) : x.d.types.length = x.types.l.length := by show (x.types.l.map FT.d).length = _; rw [List.length_map]
theorem imp_eq_iff {u v : Imp} : u = v ↔ (u.name = v.name ∧ u.key = v.key) := by
  obtain ⟨_, _⟩ := u; obtain ⟨_, _⟩ := v; simp

set_option maxRecDepth 100000 in
set_option maxHeartbeats 16000000 in
theorem means_step (x y : Fc) (w0 : World) (gp Bm N : Nat) (hx : x.Rd w0) (hy : y.Rd w0) (mx : mayFace x.d = true) (my : mayFace y.d = true) (ih : MeansC x y w0 gp Bm N) : MeansC x y w0 gp Bm (N + 1) := by
  intro T rm ri sm si w hT hN hr hs hP
  have HIH : Hid (MeansC x y w0 gp Bm N) := Lib.hid ih
  have HT := Lib.hid hT
  have HN := Lib.hid hN
  have HR := Lib.hid hr
  have HS := Lib.hid hs
  have HP := Lib.hid hP
  have HX := Lib.hid hx
  have HY := Lib.hid hy
  have HMX := Lib.hid mx
  have HMY := Lib.hid my
  obtain ⟨⟨r1, r2⟩, r3, r4⟩ := leads_bd mx hr
  obtain ⟨⟨s1, s2⟩, s3, s4⟩ := leads_bd my hs
  dsimp only at r1 r2 r3 r4 s1 s2 s3 s4
  have HOR : Hid (∀ W, Calls Try.prog 34 #[.agg #[.int .i64 rm, .int .i64 ri]] W fun e w' => e = .returned (.bool (ownB ⟨rm, ri⟩)) ∧ Below W.heap.size W w') := Lib.hid (fun W => own_walk rm ri W)
  have HOS : Hid (∀ W, Calls Try.prog 34 #[.agg #[.int .i64 sm, .int .i64 si]] W fun e w' => e = .returned (.bool (ownB ⟨sm, si⟩)) ∧ Below W.heap.size W w') := Lib.hid (fun W => own_walk sm si W)
  have HB0 := Lib.hid (bel3 w (.cells #[.pointer (some ⟨gp, 0, none⟩)] 54) (.cells #[.int .i64 rm, .int .i64 ri] 34) (.cells #[.int .i64 sm, .int .i64 si] 34))
  have hSP := (Sep.nil w).alloc3 #[.pointer (some ⟨gp, 0, none⟩)] #[.int .i64 rm, .int .i64 ri] #[.int .i64 sm, .int .i64 si] 54 34 34
  have HGP := Lib.hid (hSP.at 2 rfl)
  have HGR := Lib.hid (hSP.at 1 rfl)
  have HGS := Lib.hid (hSP.at 0 rfl)
  have HGM := Lib.hid (HP.out.on HB0.out)
  clear hT hN hr hs hP hx hy mx my ih hSP
  cases hro : ownB ⟨rm, ri⟩ <;> cases hso : ownB ⟨sm, si⟩
  · have HRO := Lib.hid hro
    have HSO := Lib.hid hso
    rw [hro] at HOR
    rw [hso] at HOS
    clear hro hso
    have hr16 : rm = 0 → ri < 16 := fun h => by have := of_decide_eq_false HRO.out; dsimp only at this; omega
    have hs16 : sm = 0 → si < 16 := fun h => by have := of_decide_eq_false HSO.out; dsimp only at this; omega
    have HR16 := Lib.hid hr16
    have HS16 := Lib.hid hs16
    clear hr16 hs16
    by_cases hm : rm = 0
    · by_cases hn : sm = 0
      · have HV0 : Hid (∀ U, onceP x.d y.d U ⟨rm, ri⟩ ⟨sm, si⟩ ↔ ri = si) := Lib.hid (fun U => once_basic (r := ⟨rm, ri⟩) (s := ⟨sm, si⟩) hm hn (HR16.out hm) (HS16.out hn))
        subst hm
        subst hn
        have d0 : decide ((0 : Int) < 0) = false := rfl
        cases hq : (ri == si)
        · skip
          have HV : Hid (MeansOut x.d y.d T ⟨0, ri⟩ ⟨0, si⟩ false T) := Lib.hid (out_plain HT.out (by intro h; cases h) (fun _ U k => by have := (HV0.out U).1 k; rw [beq_eq_false_iff_ne] at hq; exact hq this))
          go_enter Try.func32, Try.ntmps32
          go_wp2_with (fail)
          refine wp_region_mix' [([0, 2], 1), ([], 3)] [4, 5, 6, 7, 8, 9, 10, 11, 12, 13, 14] (by kernel_rfl) (by kernel_rfl) (fun _ _ d _ _ h => by cases d <;> exact h) ?_
          intro wd hbd
          have HB1 := Lib.hid (bel_then HB0.out hbd)
          have HGP1 := Lib.hid (HGP.out.bel hbd)
          have HGR1 := Lib.hid (HGR.out.bel hbd)
          have HGS1 := Lib.hid (HGS.out.bel hbd)
          have HGM1 := Lib.hid (HGM.out.on hbd)
          clear hbd
          refine mix_step ?_
          have ls0 := fun y => (HGR1.out.laterB y).loads (P := Try.prog) Try.underlying34 rfl (by kernel_rfl)
          have ls1 := fun y => (HGS1.out.laterB y).loads (P := Try.prog) Try.underlying34 rfl (by kernel_rfl)
          simp only [pickOps, nth, Act.put, List.setIfInBounds_toArray, List.set_cons_succ, List.set_cons_zero]
          (repeat (go_big_quiet_step (fail)))
          (go_big_quiet_want; refine quiet_row 34 (.tmp 4) rfl rfl ls0 ?_; go_big_quiet_on)
          simp only [pickOps, nth, Act.put, List.setIfInBounds_toArray, List.set_cons_succ, List.set_cons_zero]
          (repeat (go_big_quiet_step (fail)))
          (go_big_quiet_want; refine quiet_row 34 (.tmp 5) rfl rfl ls1 ?_; go_big_quiet_on)
          simp only [pickOps, nth, Act.put, List.setIfInBounds_toArray, List.set_cons_succ, List.set_cons_zero]
          (repeat (go_big_quiet_step (fail)))
          refine wpQuiet_nil ?_
          clear ls0 ls1
          go_wp2_with (refine (HOR.out _).mono ?_; rintro e w2 ⟨rfl, hb⟩; have HBs := Lib.hid hb; have HB2 := Lib.hid (bel_then HB1.out hb); have HGP2 := Lib.hid (HGP1.out.bel hb); have HGR2 := Lib.hid (HGR1.out.bel hb); have HGS2 := Lib.hid (HGS1.out.bel hb); have HGM2 := Lib.hid (HGM1.out.on hb); clear hb)
          refine ⟨HBs.out, mix_step ?_⟩
          simp only [pickOps, nth, Act.put, List.setIfInBounds_toArray, List.set_cons_succ, List.set_cons_zero]
          (repeat (go_big_quiet_step (fail)))
          refine wpQuiet_nil ?_
          go_wp2_with (refine (HOS.out _).mono ?_; rintro e w3 ⟨rfl, hb⟩; have HBs := Lib.hid hb; have HB3 := Lib.hid (bel_then HB2.out hb); have HGP3 := Lib.hid (HGP2.out.bel hb); have HGR3 := Lib.hid (HGR2.out.bel hb); have HGS3 := Lib.hid (HGS2.out.bel hb); have HGM3 := Lib.hid (HGM2.out.on hb); clear hb)
          refine ⟨HBs.out, mix_end ?_⟩
          have lcR0 := fun y => HGR3.out.laterCellB (v := .int .i64 0) 0 rfl y
          have lcS0 := fun y => HGS3.out.laterCellB (v := .int .i64 0) 0 rfl y
          simp only [pickOps, nth, Act.put, List.setIfInBounds_toArray, List.set_cons_succ, List.set_cons_zero]
          (repeat (go_big_quiet_step (fail)))
          refine wpQuiet_nil ?_
          clear lcR0 lcS0
          have t0 := (HGR3.out.cell 0).trans (show _ = some (.int .i64 0) from rfl)
          have fl3 : True := trivial
          have fl4 : True := trivial
          have fl5 : True := trivial
          have fl6 : True := trivial
          go_wp2_with (first | (have _f := fl3; refine load_sep (cs := #[.int .i64 0, .int .i64 ri]) rfl 34 (.tmp 4) rfl (Sep.one HGR3.out) 0 rfl rfl Try.underlying34 rfl (by kernel_rfl) ?_; clear _f fl3) | (have _f := fl4; refine (HOR.out _).mono ?_; rintro e w4 ⟨rfl, hb⟩; have HB4 := Lib.hid (bel_then HB3.out hb); have HGP4 := Lib.hid (HGP3.out.bel hb); have HGR4 := Lib.hid (HGR3.out.bel hb); have HGS4 := Lib.hid (HGS3.out.bel hb); have HGM4 := Lib.hid (HGM3.out.on hb); clear hb; clear _f fl4) | (have _f := fl5; refine load_sep (cs := #[.int .i64 0, .int .i64 ri]) rfl 34 (.tmp 4) rfl (Sep.one HGR4.out) 0 rfl rfl Try.underlying34 rfl (by kernel_rfl) ?_; clear _f fl5) | (have _f := fl6; refine load_sep (cs := #[.int .i64 0, .int .i64 si]) rfl 34 (.tmp 5) rfl (Sep.one HGS4.out) 0 rfl rfl Try.underlying34 rfl (by kernel_rfl) ?_; clear _f fl6))
          go_ret
          exact ⟨false, T, rfl, HV.out, HGM4.out, Ke.below _ HB4.out⟩
        · skip
          have HV : Hid (MeansOut x.d y.d T ⟨0, ri⟩ ⟨0, si⟩ true T) := Lib.hid (out_plain HT.out (fun _ U => (HV0.out U).2 (beq_iff_eq.1 hq)) (by intro h; cases h))
          go_enter Try.func32, Try.ntmps32
          go_wp2_with (fail)
          refine wp_region_mix' [([0, 2], 1), ([], 3)] [4, 5, 6, 7, 8, 9, 10, 11, 12, 13, 14] (by kernel_rfl) (by kernel_rfl) (fun _ _ d _ _ h => by cases d <;> exact h) ?_
          intro wd hbd
          have HB5 := Lib.hid (bel_then HB0.out hbd)
          have HGP5 := Lib.hid (HGP.out.bel hbd)
          have HGR5 := Lib.hid (HGR.out.bel hbd)
          have HGS5 := Lib.hid (HGS.out.bel hbd)
          have HGM5 := Lib.hid (HGM.out.on hbd)
          clear hbd
          refine mix_step ?_
          have ls0 := fun y => (HGR5.out.laterB y).loads (P := Try.prog) Try.underlying34 rfl (by kernel_rfl)
          have ls1 := fun y => (HGS5.out.laterB y).loads (P := Try.prog) Try.underlying34 rfl (by kernel_rfl)
          simp only [pickOps, nth, Act.put, List.setIfInBounds_toArray, List.set_cons_succ, List.set_cons_zero]
          (repeat (go_big_quiet_step (fail)))
          (go_big_quiet_want; refine quiet_row 34 (.tmp 4) rfl rfl ls0 ?_; go_big_quiet_on)
          simp only [pickOps, nth, Act.put, List.setIfInBounds_toArray, List.set_cons_succ, List.set_cons_zero]
          (repeat (go_big_quiet_step (fail)))
          (go_big_quiet_want; refine quiet_row 34 (.tmp 5) rfl rfl ls1 ?_; go_big_quiet_on)
          simp only [pickOps, nth, Act.put, List.setIfInBounds_toArray, List.set_cons_succ, List.set_cons_zero]
          (repeat (go_big_quiet_step (fail)))
          refine wpQuiet_nil ?_
          clear ls0 ls1
          go_wp2_with (refine (HOR.out _).mono ?_; rintro e w6 ⟨rfl, hb⟩; have HBs := Lib.hid hb; have HB6 := Lib.hid (bel_then HB5.out hb); have HGP6 := Lib.hid (HGP5.out.bel hb); have HGR6 := Lib.hid (HGR5.out.bel hb); have HGS6 := Lib.hid (HGS5.out.bel hb); have HGM6 := Lib.hid (HGM5.out.on hb); clear hb)
          refine ⟨HBs.out, mix_step ?_⟩
          simp only [pickOps, nth, Act.put, List.setIfInBounds_toArray, List.set_cons_succ, List.set_cons_zero]
          (repeat (go_big_quiet_step (fail)))
          refine wpQuiet_nil ?_
          go_wp2_with (refine (HOS.out _).mono ?_; rintro e w7 ⟨rfl, hb⟩; have HBs := Lib.hid hb; have HB7 := Lib.hid (bel_then HB6.out hb); have HGP7 := Lib.hid (HGP6.out.bel hb); have HGR7 := Lib.hid (HGR6.out.bel hb); have HGS7 := Lib.hid (HGS6.out.bel hb); have HGM7 := Lib.hid (HGM6.out.on hb); clear hb)
          refine ⟨HBs.out, mix_end ?_⟩
          have lcR0 := fun y => HGR7.out.laterCellB (v := .int .i64 0) 0 rfl y
          have lcS0 := fun y => HGS7.out.laterCellB (v := .int .i64 0) 0 rfl y
          simp only [pickOps, nth, Act.put, List.setIfInBounds_toArray, List.set_cons_succ, List.set_cons_zero]
          (repeat (go_big_quiet_step (fail)))
          refine wpQuiet_nil ?_
          clear lcR0 lcS0
          have t0 := (HGR7.out.cell 0).trans (show _ = some (.int .i64 0) from rfl)
          have fl7 : True := trivial
          have fl8 : True := trivial
          have fl9 : True := trivial
          have fl10 : True := trivial
          go_wp2_with (first | (have _f := fl7; refine load_sep (cs := #[.int .i64 0, .int .i64 ri]) rfl 34 (.tmp 4) rfl (Sep.one HGR7.out) 0 rfl rfl Try.underlying34 rfl (by kernel_rfl) ?_; clear _f fl7) | (have _f := fl8; refine (HOR.out _).mono ?_; rintro e w8 ⟨rfl, hb⟩; have HB8 := Lib.hid (bel_then HB7.out hb); have HGP8 := Lib.hid (HGP7.out.bel hb); have HGR8 := Lib.hid (HGR7.out.bel hb); have HGS8 := Lib.hid (HGS7.out.bel hb); have HGM8 := Lib.hid (HGM7.out.on hb); clear hb; clear _f fl8) | (have _f := fl9; refine load_sep (cs := #[.int .i64 0, .int .i64 ri]) rfl 34 (.tmp 4) rfl (Sep.one HGR8.out) 0 rfl rfl Try.underlying34 rfl (by kernel_rfl) ?_; clear _f fl9) | (have _f := fl10; refine load_sep (cs := #[.int .i64 0, .int .i64 si]) rfl 34 (.tmp 5) rfl (Sep.one HGS8.out) 0 rfl rfl Try.underlying34 rfl (by kernel_rfl) ?_; clear _f fl10))
          go_ret
          exact ⟨true, T, rfl, HV.out, HGM8.out, Ke.below _ HB8.out⟩
      · have e1 : (rm == 0) = true := by rw [hm]; rfl
        have e2 : (sm == 0) = false := by rw [beq_eq_false_iff_ne]; exact hn
        have HV : Hid (MeansOut x.d y.d T ⟨rm, ri⟩ ⟨sm, si⟩ false T) := Lib.hid (out_plain HT.out (by intro h; cases h) (fun _ U => once_mod_ne (r := ⟨rm, ri⟩) (s := ⟨sm, si⟩) (fun q => hn (q.1 hm))))
        clear hm hn
        go_enter Try.func32, Try.ntmps32
        go_wp2_with (fail)
        refine wp_region_mix' [([0, 2], 1), ([], 3)] [4, 5, 6, 7, 8, 9, 10, 11, 12, 13, 14] (by kernel_rfl) (by kernel_rfl) (fun _ _ d _ _ h => by cases d <;> exact h) ?_
        intro wd hbd
        have HB9 := Lib.hid (bel_then HB0.out hbd)
        have HGP9 := Lib.hid (HGP.out.bel hbd)
        have HGR9 := Lib.hid (HGR.out.bel hbd)
        have HGS9 := Lib.hid (HGS.out.bel hbd)
        have HGM9 := Lib.hid (HGM.out.on hbd)
        clear hbd
        refine mix_step ?_
        have ls0 := fun y => (HGR9.out.laterB y).loads (P := Try.prog) Try.underlying34 rfl (by kernel_rfl)
        have ls1 := fun y => (HGS9.out.laterB y).loads (P := Try.prog) Try.underlying34 rfl (by kernel_rfl)
        simp only [pickOps, nth, Act.put, List.setIfInBounds_toArray, List.set_cons_succ, List.set_cons_zero]
        (repeat (go_big_quiet_step (fail)))
        (go_big_quiet_want; refine quiet_row 34 (.tmp 4) rfl rfl ls0 ?_; go_big_quiet_on)
        simp only [pickOps, nth, Act.put, List.setIfInBounds_toArray, List.set_cons_succ, List.set_cons_zero]
        (repeat (go_big_quiet_step (fail)))
        (go_big_quiet_want; refine quiet_row 34 (.tmp 5) rfl rfl ls1 ?_; go_big_quiet_on)
        simp only [pickOps, nth, Act.put, List.setIfInBounds_toArray, List.set_cons_succ, List.set_cons_zero]
        (repeat (go_big_quiet_step (fail)))
        refine wpQuiet_nil ?_
        clear ls0 ls1
        go_wp2_with (refine (HOR.out _).mono ?_; rintro e w10 ⟨rfl, hb⟩; have HBs := Lib.hid hb; have HB10 := Lib.hid (bel_then HB9.out hb); have HGP10 := Lib.hid (HGP9.out.bel hb); have HGR10 := Lib.hid (HGR9.out.bel hb); have HGS10 := Lib.hid (HGS9.out.bel hb); have HGM10 := Lib.hid (HGM9.out.on hb); clear hb)
        refine ⟨HBs.out, mix_step ?_⟩
        simp only [pickOps, nth, Act.put, List.setIfInBounds_toArray, List.set_cons_succ, List.set_cons_zero]
        (repeat (go_big_quiet_step (fail)))
        refine wpQuiet_nil ?_
        go_wp2_with (refine (HOS.out _).mono ?_; rintro e w11 ⟨rfl, hb⟩; have HBs := Lib.hid hb; have HB11 := Lib.hid (bel_then HB10.out hb); have HGP11 := Lib.hid (HGP10.out.bel hb); have HGR11 := Lib.hid (HGR10.out.bel hb); have HGS11 := Lib.hid (HGS10.out.bel hb); have HGM11 := Lib.hid (HGM10.out.on hb); clear hb)
        refine ⟨HBs.out, mix_end ?_⟩
        have lcR0 := fun y => HGR11.out.laterCellB (v := .int .i64 rm) 0 rfl y
        have lcS0 := fun y => HGS11.out.laterCellB (v := .int .i64 sm) 0 rfl y
        simp only [pickOps, nth, Act.put, List.setIfInBounds_toArray, List.set_cons_succ, List.set_cons_zero]
        (repeat (go_big_quiet_step (fail)))
        refine wpQuiet_nil ?_
        clear lcR0 lcS0
        go_wp2_with (fail)
        go_ret
        exact ⟨false, T, rfl, HV.out, HGM11.out, Ke.below _ HB11.out⟩
    · by_cases hn : sm = 0
      · have e1 : (rm == 0) = false := by rw [beq_eq_false_iff_ne]; exact hm
        have e2 : (sm == 0) = true := by rw [hn]; rfl
        have HV : Hid (MeansOut x.d y.d T ⟨rm, ri⟩ ⟨sm, si⟩ false T) := Lib.hid (out_plain HT.out (by intro h; cases h) (fun _ U => once_mod_ne (r := ⟨rm, ri⟩) (s := ⟨sm, si⟩) (fun q => hm (q.2 hn))))
        clear hm hn
        go_enter Try.func32, Try.ntmps32
        go_wp2_with (fail)
        refine wp_region_mix' [([0, 2], 1), ([], 3)] [4, 5, 6, 7, 8, 9, 10, 11, 12, 13, 14] (by kernel_rfl) (by kernel_rfl) (fun _ _ d _ _ h => by cases d <;> exact h) ?_
        intro wd hbd
        have HB12 := Lib.hid (bel_then HB0.out hbd)
        have HGP12 := Lib.hid (HGP.out.bel hbd)
        have HGR12 := Lib.hid (HGR.out.bel hbd)
        have HGS12 := Lib.hid (HGS.out.bel hbd)
        have HGM12 := Lib.hid (HGM.out.on hbd)
        clear hbd
        refine mix_step ?_
        have ls0 := fun y => (HGR12.out.laterB y).loads (P := Try.prog) Try.underlying34 rfl (by kernel_rfl)
        have ls1 := fun y => (HGS12.out.laterB y).loads (P := Try.prog) Try.underlying34 rfl (by kernel_rfl)
        simp only [pickOps, nth, Act.put, List.setIfInBounds_toArray, List.set_cons_succ, List.set_cons_zero]
        (repeat (go_big_quiet_step (fail)))
        (go_big_quiet_want; refine quiet_row 34 (.tmp 4) rfl rfl ls0 ?_; go_big_quiet_on)
        simp only [pickOps, nth, Act.put, List.setIfInBounds_toArray, List.set_cons_succ, List.set_cons_zero]
        (repeat (go_big_quiet_step (fail)))
        (go_big_quiet_want; refine quiet_row 34 (.tmp 5) rfl rfl ls1 ?_; go_big_quiet_on)
        simp only [pickOps, nth, Act.put, List.setIfInBounds_toArray, List.set_cons_succ, List.set_cons_zero]
        (repeat (go_big_quiet_step (fail)))
        refine wpQuiet_nil ?_
        clear ls0 ls1
        go_wp2_with (refine (HOR.out _).mono ?_; rintro e w13 ⟨rfl, hb⟩; have HBs := Lib.hid hb; have HB13 := Lib.hid (bel_then HB12.out hb); have HGP13 := Lib.hid (HGP12.out.bel hb); have HGR13 := Lib.hid (HGR12.out.bel hb); have HGS13 := Lib.hid (HGS12.out.bel hb); have HGM13 := Lib.hid (HGM12.out.on hb); clear hb)
        refine ⟨HBs.out, mix_step ?_⟩
        simp only [pickOps, nth, Act.put, List.setIfInBounds_toArray, List.set_cons_succ, List.set_cons_zero]
        (repeat (go_big_quiet_step (fail)))
        refine wpQuiet_nil ?_
        go_wp2_with (refine (HOS.out _).mono ?_; rintro e w14 ⟨rfl, hb⟩; have HBs := Lib.hid hb; have HB14 := Lib.hid (bel_then HB13.out hb); have HGP14 := Lib.hid (HGP13.out.bel hb); have HGR14 := Lib.hid (HGR13.out.bel hb); have HGS14 := Lib.hid (HGS13.out.bel hb); have HGM14 := Lib.hid (HGM13.out.on hb); clear hb)
        refine ⟨HBs.out, mix_end ?_⟩
        have lcR0 := fun y => HGR14.out.laterCellB (v := .int .i64 rm) 0 rfl y
        have lcS0 := fun y => HGS14.out.laterCellB (v := .int .i64 sm) 0 rfl y
        simp only [pickOps, nth, Act.put, List.setIfInBounds_toArray, List.set_cons_succ, List.set_cons_zero]
        (repeat (go_big_quiet_step (fail)))
        refine wpQuiet_nil ?_
        clear lcR0 lcS0
        go_wp2_with (fail)
        go_ret
        exact ⟨false, T, rfl, HV.out, HGM14.out, Ke.below _ HB14.out⟩
      · have e1 : (rm == 0) = false := by rw [beq_eq_false_iff_ne]; exact hm
        have e2 : (sm == 0) = false := by rw [beq_eq_false_iff_ne]; exact hn
        have e3 : decide (0 < rm) = true := decide_eq_true (by omega)
        have HV0 : Hid (∀ U, onceP x.d y.d U ⟨rm, ri⟩ ⟨sm, si⟩ ↔ (ri = si ∧ x.d.imps[(rm - 1).toNat]? = y.d.imps[(sm - 1).toNat]?)) := Lib.hid (fun U => once_far (r := ⟨rm, ri⟩) (s := ⟨sm, si⟩) (by dsimp only; omega) (by dsimp only; omega))
        have lr := leads_far HR.out (by dsimp only; omega)
        have ls := leads_far HS.out (by dsimp only; omega)
        dsimp only at lr ls
        obtain ⟨i, hi⟩ : ∃ i : Nat, rm - 1 = i := ⟨(rm - 1).toNat, by omega⟩
        obtain ⟨j, hj⟩ : ∃ j : Nat, sm - 1 = j := ⟨(sm - 1).toNat, by omega⟩
        have HI := Lib.hid hi
        have HJ := Lib.hid hj
        have hli : i < x.imps.l.length := by have : x.d.imps.length = x.imps.l.length := rfl; omega
        have hlj : j < y.imps.l.length := by have : y.d.imps.length = y.imps.l.length := rfl; omega
        obtain ⟨⟨un, uk⟩, hu⟩ := get_lt hli
        obtain ⟨⟨vn, vk⟩, hv⟩ := get_lt hlj
        have HUV : Hid (x.d.imps[(rm - 1).toNat]? = some ⟨un, uk⟩ ∧ y.d.imps[(sm - 1).toNat]? = some ⟨vn, vk⟩) := Lib.hid ⟨by rw [hi]; exact hu, by rw [hj]; exact hv⟩
        obtain ⟨xa, xc, xl, hx⟩ : ∃ a c l, x.imps = ⟨a, c, l⟩ := ⟨_, _, _, rfl⟩
        have HxI := Lib.hid hx
        obtain ⟨xb, xo, hatx, hclx⟩ := HX.out.imps.at'
        have hlex := HX.out.imps.row.le
        rw [hx] at hatx hclx hlex hli hu
        dsimp only at hatx hclx hlex hli hu
        obtain ⟨rfl, hbx⟩ := hatx (by omega)
        obtain ⟨ya, yc, yl, hy⟩ : ∃ a c l, y.imps = ⟨a, c, l⟩ := ⟨_, _, _, rfl⟩
        have HyI := Lib.hid hy
        obtain ⟨yb, yo, haty, hcly⟩ := HY.out.imps.at'
        have hley := HY.out.imps.row.le
        rw [hy] at haty hcly hley hlj hv
        dsimp only at haty hcly hley hlj hv
        obtain ⟨rfl, hby⟩ := haty (by omega)
        have HCX : Hid (∀ W, Below w0.heap.size w0 W → ∀ (q : Nat) (v : Value), ([.string un, .int .u32 uk] : List Value)[q]? = some v → W.cell? ⟨xb, xo + i * 2 + q, none⟩ = some v) := Lib.hid (fun W k q v hq => (k.cell (p := ⟨xb, xo + i * 2 + q, none⟩) hbx).trans (hclx i _ hu q v hq))
        have HCY : Hid (∀ W, Below w0.heap.size w0 W → ∀ (q : Nat) (v : Value), ([.string vn, .int .u32 vk] : List Value)[q]? = some v → W.cell? ⟨yb, yo + j * 2 + q, none⟩ = some v) := Lib.hid (fun W k q v hq => (k.cell (p := ⟨yb, yo + j * 2 + q, none⟩) hby).trans (hcly j _ hv q v hq))
        have HPX : Hid (∀ W, At W gp (pairC x y Bm) 57 → W.cell? ⟨gp, 1, none⟩ = some (.slice (some ⟨xb, xo, none⟩) xl.length xc)) := Lib.hid (fun W h => (h.cell 1).trans (by show some x.imps.val = _; rw [HxI.out]; rfl))
        have HPY : Hid (∀ W, At W gp (pairC x y Bm) 57 → W.cell? ⟨gp, 5, none⟩ = some (.slice (some ⟨yb, yo, none⟩) yl.length yc)) := Lib.hid (fun W h => (h.cell 5).trans (by show some y.imps.val = _; rw [HyI.out]; rfl))
        have w1i : IntKind.i64.wrap (rm - 1) = i := by rw [hi]; exact IntWalk.i64_in _ (by omega)
        have w1j : IntKind.i64.wrap (sm - 1) = j := by rw [hj]; exact IntWalk.i64_in _ (by omega)
        have li1 : (i : Int) < xl.length := by omega
        have lj1 : (j : Int) < yl.length := by omega
        have W1 := Lib.hid (And.intro w1i w1j)
        clear w1i w1j hi hj lr ls hx hy hatx haty hclx hcly hlex hley hli hlj hu hv hbx hby hm hn e1 e2
        have HV1 : Hid (∀ U, onceP x.d y.d U ⟨rm, ri⟩ ⟨sm, si⟩ ↔ (ri = si ∧ un = vn ∧ uk = vk)) := Lib.hid (fun U => (HV0.out U).trans (by rw [HUV.out.1, HUV.out.2, Option.some.injEq, imp_eq_iff]))
        have e1 : (rm == 0) = false := by rw [beq_eq_false_iff_ne]; have := of_decide_eq_true e3; omega
        have e2 : (sm == 0) = false := by rw [beq_eq_false_iff_ne]; have := HJ.out; omega
        by_cases hq : ri = si
        rotate_left
        · have q1 : (ri == si) = false := by rw [beq_eq_false_iff_ne]; exact hq
          have HV : Hid (MeansOut x.d y.d T ⟨rm, ri⟩ ⟨sm, si⟩ false T) := Lib.hid (out_plain HT.out (by intro h; cases h) (fun _ U k => hq ((HV1.out U).1 k).1))
          clear hq
          go_enter Try.func32, Try.ntmps32
          go_wp2_with (fail)
          refine wp_region_mix' [([0, 2], 1), ([], 3)] [4, 5, 6, 7, 8, 9, 10, 11, 12, 13, 14] (by kernel_rfl) (by kernel_rfl) (fun _ _ d _ _ h => by cases d <;> exact h) ?_
          intro wd hbd
          have HB15 := Lib.hid (bel_then HB0.out hbd)
          have HGP15 := Lib.hid (HGP.out.bel hbd)
          have HGR15 := Lib.hid (HGR.out.bel hbd)
          have HGS15 := Lib.hid (HGS.out.bel hbd)
          have HGM15 := Lib.hid (HGM.out.on hbd)
          clear hbd
          refine mix_step ?_
          have ls0 := fun y => (HGR15.out.laterB y).loads (P := Try.prog) Try.underlying34 rfl (by kernel_rfl)
          have ls1 := fun y => (HGS15.out.laterB y).loads (P := Try.prog) Try.underlying34 rfl (by kernel_rfl)
          simp only [pickOps, nth, Act.put, List.setIfInBounds_toArray, List.set_cons_succ, List.set_cons_zero]
          (repeat (go_big_quiet_step (fail)))
          (go_big_quiet_want; refine quiet_row 34 (.tmp 4) rfl rfl ls0 ?_; go_big_quiet_on)
          simp only [pickOps, nth, Act.put, List.setIfInBounds_toArray, List.set_cons_succ, List.set_cons_zero]
          (repeat (go_big_quiet_step (fail)))
          (go_big_quiet_want; refine quiet_row 34 (.tmp 5) rfl rfl ls1 ?_; go_big_quiet_on)
          simp only [pickOps, nth, Act.put, List.setIfInBounds_toArray, List.set_cons_succ, List.set_cons_zero]
          (repeat (go_big_quiet_step (fail)))
          refine wpQuiet_nil ?_
          clear ls0 ls1
          go_wp2_with (refine (HOR.out _).mono ?_; rintro e w16 ⟨rfl, hb⟩; have HBs := Lib.hid hb; have HB16 := Lib.hid (bel_then HB15.out hb); have HGP16 := Lib.hid (HGP15.out.bel hb); have HGR16 := Lib.hid (HGR15.out.bel hb); have HGS16 := Lib.hid (HGS15.out.bel hb); have HGM16 := Lib.hid (HGM15.out.on hb); clear hb)
          refine ⟨HBs.out, mix_step ?_⟩
          simp only [pickOps, nth, Act.put, List.setIfInBounds_toArray, List.set_cons_succ, List.set_cons_zero]
          (repeat (go_big_quiet_step (fail)))
          refine wpQuiet_nil ?_
          go_wp2_with (refine (HOS.out _).mono ?_; rintro e w17 ⟨rfl, hb⟩; have HBs := Lib.hid hb; have HB17 := Lib.hid (bel_then HB16.out hb); have HGP17 := Lib.hid (HGP16.out.bel hb); have HGR17 := Lib.hid (HGR16.out.bel hb); have HGS17 := Lib.hid (HGS16.out.bel hb); have HGM17 := Lib.hid (HGM16.out.on hb); clear hb)
          refine ⟨HBs.out, mix_end ?_⟩
          have lcR0 := fun y => HGR17.out.laterCellB (v := .int .i64 rm) 0 rfl y
          have lcS0 := fun y => HGS17.out.laterCellB (v := .int .i64 sm) 0 rfl y
          simp only [pickOps, nth, Act.put, List.setIfInBounds_toArray, List.set_cons_succ, List.set_cons_zero]
          (repeat (go_big_quiet_step (fail)))
          refine wpQuiet_nil ?_
          clear lcR0 lcS0
          have t0 := (HGR17.out.cell 0).trans (show _ = some (.int .i64 rm) from rfl)
          go_wp2_with (fail)
          clear t0
          have w1i := W1.out.1
          have w1j := W1.out.2
          refine wp_region_mix' [] [0, 1, 2, 3, 4, 5, 6, 7, 8, 9, 10, 11, 12, 13, 14, 15, 16, 17, 18, 19, 20, 21, 22, 23, 24, 25, 26, 27, 28] (by kernel_rfl) (by kernel_rfl) (fun _ _ d _ _ h => by cases d <;> exact h) ?_
          intro wd hbd
          have HB18 := Lib.hid (bel_then HB17.out hbd)
          have HGP18 := Lib.hid (HGP17.out.bel hbd)
          have HGR18 := Lib.hid (HGR17.out.bel hbd)
          have HGS18 := Lib.hid (HGS17.out.bel hbd)
          have HGM18 := Lib.hid (HGM17.out.on hbd)
          clear hbd
          refine mix_end ?_
          have lcR1 := fun y => HGR18.out.laterCellB (v := .int .i64 ri) 1 rfl y
          have lcS1 := fun y => HGS18.out.laterCellB (v := .int .i64 si) 1 rfl y
          simp only [pickOps, nth, Act.put, List.setIfInBounds_toArray, List.set_cons_succ, List.set_cons_zero]
          (repeat (go_big_quiet_step (fail)))
          refine wpQuiet_nil ?_
          clear lcR1 lcS1
          go_wp2_with (fail)
          go_ret
          exact ⟨false, T, rfl, HV.out, HGM18.out, Ke.below _ HB18.out⟩
        have q1 : (ri == si) = true := by rw [hq, beq_self_eq_true]
        have HQ := Lib.hid hq
        clear hq
        by_cases hn : un = vn
        rotate_left
        · have q2 := str_other hn
          have HV : Hid (MeansOut x.d y.d T ⟨rm, ri⟩ ⟨sm, si⟩ false T) := Lib.hid (out_plain HT.out (by intro h; cases h) (fun _ U k => hn ((HV1.out U).1 k).2.1))
          clear hn
          go_enter Try.func32, Try.ntmps32
          go_wp2_with (fail)
          refine wp_region_mix' [([0, 2], 1), ([], 3)] [4, 5, 6, 7, 8, 9, 10, 11, 12, 13, 14] (by kernel_rfl) (by kernel_rfl) (fun _ _ d _ _ h => by cases d <;> exact h) ?_
          intro wd hbd
          have HB19 := Lib.hid (bel_then HB0.out hbd)
          have HGP19 := Lib.hid (HGP.out.bel hbd)
          have HGR19 := Lib.hid (HGR.out.bel hbd)
          have HGS19 := Lib.hid (HGS.out.bel hbd)
          have HGM19 := Lib.hid (HGM.out.on hbd)
          clear hbd
          refine mix_step ?_
          have ls0 := fun y => (HGR19.out.laterB y).loads (P := Try.prog) Try.underlying34 rfl (by kernel_rfl)
          have ls1 := fun y => (HGS19.out.laterB y).loads (P := Try.prog) Try.underlying34 rfl (by kernel_rfl)
          simp only [pickOps, nth, Act.put, List.setIfInBounds_toArray, List.set_cons_succ, List.set_cons_zero]
          (repeat (go_big_quiet_step (fail)))
          (go_big_quiet_want; refine quiet_row 34 (.tmp 4) rfl rfl ls0 ?_; go_big_quiet_on)
          simp only [pickOps, nth, Act.put, List.setIfInBounds_toArray, List.set_cons_succ, List.set_cons_zero]
          (repeat (go_big_quiet_step (fail)))
          (go_big_quiet_want; refine quiet_row 34 (.tmp 5) rfl rfl ls1 ?_; go_big_quiet_on)
          simp only [pickOps, nth, Act.put, List.setIfInBounds_toArray, List.set_cons_succ, List.set_cons_zero]
          (repeat (go_big_quiet_step (fail)))
          refine wpQuiet_nil ?_
          clear ls0 ls1
          go_wp2_with (refine (HOR.out _).mono ?_; rintro e w20 ⟨rfl, hb⟩; have HBs := Lib.hid hb; have HB20 := Lib.hid (bel_then HB19.out hb); have HGP20 := Lib.hid (HGP19.out.bel hb); have HGR20 := Lib.hid (HGR19.out.bel hb); have HGS20 := Lib.hid (HGS19.out.bel hb); have HGM20 := Lib.hid (HGM19.out.on hb); clear hb)
          refine ⟨HBs.out, mix_step ?_⟩
          simp only [pickOps, nth, Act.put, List.setIfInBounds_toArray, List.set_cons_succ, List.set_cons_zero]
          (repeat (go_big_quiet_step (fail)))
          refine wpQuiet_nil ?_
          go_wp2_with (refine (HOS.out _).mono ?_; rintro e w21 ⟨rfl, hb⟩; have HBs := Lib.hid hb; have HB21 := Lib.hid (bel_then HB20.out hb); have HGP21 := Lib.hid (HGP20.out.bel hb); have HGR21 := Lib.hid (HGR20.out.bel hb); have HGS21 := Lib.hid (HGS20.out.bel hb); have HGM21 := Lib.hid (HGM20.out.on hb); clear hb)
          refine ⟨HBs.out, mix_end ?_⟩
          have lcR0 := fun y => HGR21.out.laterCellB (v := .int .i64 rm) 0 rfl y
          have lcS0 := fun y => HGS21.out.laterCellB (v := .int .i64 sm) 0 rfl y
          simp only [pickOps, nth, Act.put, List.setIfInBounds_toArray, List.set_cons_succ, List.set_cons_zero]
          (repeat (go_big_quiet_step (fail)))
          refine wpQuiet_nil ?_
          clear lcR0 lcS0
          have t0 := (HGR21.out.cell 0).trans (show _ = some (.int .i64 rm) from rfl)
          go_wp2_with (fail)
          clear t0
          have w1i := W1.out.1
          have w1j := W1.out.2
          refine wp_region_mix' [] [0, 1, 2, 3, 4, 5, 6, 7, 8, 9, 10, 11, 12, 13, 14, 15, 16, 17, 18, 19, 20, 21, 22, 23, 24, 25, 26, 27, 28] (by kernel_rfl) (by kernel_rfl) (fun _ _ d _ _ h => by cases d <;> exact h) ?_
          intro wd hbd
          have HB22 := Lib.hid (bel_then HB21.out hbd)
          have HGP22 := Lib.hid (HGP21.out.bel hbd)
          have HGR22 := Lib.hid (HGR21.out.bel hbd)
          have HGS22 := Lib.hid (HGS21.out.bel hbd)
          have HGM22 := Lib.hid (HGM21.out.on hbd)
          clear hbd
          refine mix_end ?_
          have lpx := fun y' => HPX.out _ ((HGM22.out.pr).laterB y')
          have lpy := fun y' => HPY.out _ ((HGM22.out.pr).laterB y')
          have lcR1 := fun y => HGR22.out.laterCellB (v := .int .i64 ri) 1 rfl y
          have lcS1 := fun y => HGS22.out.laterCellB (v := .int .i64 si) 1 rfl y
          have lcP0 := fun y => HGP22.out.laterCellB (v := .pointer (some ⟨gp, 0, none⟩)) 0 rfl y
          have lcR0 := fun y => HGR22.out.laterCellB (v := .int .i64 rm) 0 rfl y
          have lcS0 := fun y => HGS22.out.laterCellB (v := .int .i64 sm) 0 rfl y
          have ls0 : ∀ y : Later (Below wd.heap.size wd), (Instr.loadAt 75 (.pointer (some ⟨xb, (xo + i * 2), none⟩))).run Try.prog y.w = .ok (.agg #[.string un, .int .u32 uk]) y.w := fun y => loads_midM (cs := [.string un, .int .u32 uk]) (fun q v hv => HCX.out _ (bel_then HGM22.out.bel y.ok) q v hv) Try.underlying75 rfl (by kernel_rfl)
          have ls1 : ∀ y : Later (Below wd.heap.size wd), (Instr.loadAt 75 (.pointer (some ⟨yb, (yo + j * 2), none⟩))).run Try.prog y.w = .ok (.agg #[.string vn, .int .u32 vk]) y.w := fun y => loads_midM (cs := [.string vn, .int .u32 vk]) (fun q v hv => HCY.out _ (bel_then HGM22.out.bel y.ok) q v hv) Try.underlying75 rfl (by kernel_rfl)
          simp only [pickOps, nth, Act.put, List.setIfInBounds_toArray, List.set_cons_succ, List.set_cons_zero]
          (repeat (go_big_quiet_step (fail)))
          (go_big_quiet_want; refine quiet_row3 75 (.tmp 42) rfl rfl ls0 ?_; go_big_quiet_on)
          simp only [pickOps, nth, Act.put, List.setIfInBounds_toArray, List.set_cons_succ, List.set_cons_zero]
          (repeat (go_big_quiet_step (fail)))
          (go_big_quiet_want; refine quiet_row3 75 (.tmp 52) rfl rfl ls1 ?_; go_big_quiet_on)
          simp only [pickOps, nth, Act.put, List.setIfInBounds_toArray, List.set_cons_succ, List.set_cons_zero]
          (repeat (go_big_quiet_step (fail)))
          refine wpQuiet_nil ?_
          clear lpx lpy lcR1 lcS1 lcP0 lcR0 lcS0 ls0 ls1
          go_wp2_with (fail)
          go_ret
          exact ⟨false, T, rfl, HV.out, HGM22.out, Ke.below _ HB22.out⟩
        have q2 := str_same hn
        have HNN := Lib.hid hn
        clear hn
        by_cases hk : uk = vk
        rotate_left
        · have q3 : (uk == vk) = false := by rw [beq_eq_false_iff_ne]; exact hk
          have HV : Hid (MeansOut x.d y.d T ⟨rm, ri⟩ ⟨sm, si⟩ false T) := Lib.hid (out_plain HT.out (by intro h; cases h) (fun _ U k => hk ((HV1.out U).1 k).2.2))
          clear hk
          go_enter Try.func32, Try.ntmps32
          go_wp2_with (fail)
          refine wp_region_mix' [([0, 2], 1), ([], 3)] [4, 5, 6, 7, 8, 9, 10, 11, 12, 13, 14] (by kernel_rfl) (by kernel_rfl) (fun _ _ d _ _ h => by cases d <;> exact h) ?_
          intro wd hbd
          have HB23 := Lib.hid (bel_then HB0.out hbd)
          have HGP23 := Lib.hid (HGP.out.bel hbd)
          have HGR23 := Lib.hid (HGR.out.bel hbd)
          have HGS23 := Lib.hid (HGS.out.bel hbd)
          have HGM23 := Lib.hid (HGM.out.on hbd)
          clear hbd
          refine mix_step ?_
          have ls0 := fun y => (HGR23.out.laterB y).loads (P := Try.prog) Try.underlying34 rfl (by kernel_rfl)
          have ls1 := fun y => (HGS23.out.laterB y).loads (P := Try.prog) Try.underlying34 rfl (by kernel_rfl)
          simp only [pickOps, nth, Act.put, List.setIfInBounds_toArray, List.set_cons_succ, List.set_cons_zero]
          (repeat (go_big_quiet_step (fail)))
          (go_big_quiet_want; refine quiet_row 34 (.tmp 4) rfl rfl ls0 ?_; go_big_quiet_on)
          simp only [pickOps, nth, Act.put, List.setIfInBounds_toArray, List.set_cons_succ, List.set_cons_zero]
          (repeat (go_big_quiet_step (fail)))
          (go_big_quiet_want; refine quiet_row 34 (.tmp 5) rfl rfl ls1 ?_; go_big_quiet_on)
          simp only [pickOps, nth, Act.put, List.setIfInBounds_toArray, List.set_cons_succ, List.set_cons_zero]
          (repeat (go_big_quiet_step (fail)))
          refine wpQuiet_nil ?_
          clear ls0 ls1
          go_wp2_with (refine (HOR.out _).mono ?_; rintro e w24 ⟨rfl, hb⟩; have HBs := Lib.hid hb; have HB24 := Lib.hid (bel_then HB23.out hb); have HGP24 := Lib.hid (HGP23.out.bel hb); have HGR24 := Lib.hid (HGR23.out.bel hb); have HGS24 := Lib.hid (HGS23.out.bel hb); have HGM24 := Lib.hid (HGM23.out.on hb); clear hb)
          refine ⟨HBs.out, mix_step ?_⟩
          simp only [pickOps, nth, Act.put, List.setIfInBounds_toArray, List.set_cons_succ, List.set_cons_zero]
          (repeat (go_big_quiet_step (fail)))
          refine wpQuiet_nil ?_
          go_wp2_with (refine (HOS.out _).mono ?_; rintro e w25 ⟨rfl, hb⟩; have HBs := Lib.hid hb; have HB25 := Lib.hid (bel_then HB24.out hb); have HGP25 := Lib.hid (HGP24.out.bel hb); have HGR25 := Lib.hid (HGR24.out.bel hb); have HGS25 := Lib.hid (HGS24.out.bel hb); have HGM25 := Lib.hid (HGM24.out.on hb); clear hb)
          refine ⟨HBs.out, mix_end ?_⟩
          have lcR0 := fun y => HGR25.out.laterCellB (v := .int .i64 rm) 0 rfl y
          have lcS0 := fun y => HGS25.out.laterCellB (v := .int .i64 sm) 0 rfl y
          simp only [pickOps, nth, Act.put, List.setIfInBounds_toArray, List.set_cons_succ, List.set_cons_zero]
          (repeat (go_big_quiet_step (fail)))
          refine wpQuiet_nil ?_
          clear lcR0 lcS0
          have t0 := (HGR25.out.cell 0).trans (show _ = some (.int .i64 rm) from rfl)
          go_wp2_with (fail)
          clear t0
          have w1i := W1.out.1
          have w1j := W1.out.2
          refine wp_region_mix' [] [0, 1, 2, 3, 4, 5, 6, 7, 8, 9, 10, 11, 12, 13, 14, 15, 16, 17, 18, 19, 20, 21, 22, 23, 24, 25, 26, 27, 28] (by kernel_rfl) (by kernel_rfl) (fun _ _ d _ _ h => by cases d <;> exact h) ?_
          intro wd hbd
          have HB26 := Lib.hid (bel_then HB25.out hbd)
          have HGP26 := Lib.hid (HGP25.out.bel hbd)
          have HGR26 := Lib.hid (HGR25.out.bel hbd)
          have HGS26 := Lib.hid (HGS25.out.bel hbd)
          have HGM26 := Lib.hid (HGM25.out.on hbd)
          clear hbd
          refine mix_end ?_
          have lpx := fun y' => HPX.out _ ((HGM26.out.pr).laterB y')
          have lpy := fun y' => HPY.out _ ((HGM26.out.pr).laterB y')
          have lcR1 := fun y => HGR26.out.laterCellB (v := .int .i64 ri) 1 rfl y
          have lcS1 := fun y => HGS26.out.laterCellB (v := .int .i64 si) 1 rfl y
          have lcP0 := fun y => HGP26.out.laterCellB (v := .pointer (some ⟨gp, 0, none⟩)) 0 rfl y
          have lcR0 := fun y => HGR26.out.laterCellB (v := .int .i64 rm) 0 rfl y
          have lcS0 := fun y => HGS26.out.laterCellB (v := .int .i64 sm) 0 rfl y
          have ls0 : ∀ y : Later (Below wd.heap.size wd), (Instr.loadAt 75 (.pointer (some ⟨xb, (xo + i * 2), none⟩))).run Try.prog y.w = .ok (.agg #[.string un, .int .u32 uk]) y.w := fun y => loads_midM (cs := [.string un, .int .u32 uk]) (fun q v hv => HCX.out _ (bel_then HGM26.out.bel y.ok) q v hv) Try.underlying75 rfl (by kernel_rfl)
          have ls1 : ∀ y : Later (Below wd.heap.size wd), (Instr.loadAt 75 (.pointer (some ⟨yb, (yo + j * 2), none⟩))).run Try.prog y.w = .ok (.agg #[.string vn, .int .u32 vk]) y.w := fun y => loads_midM (cs := [.string vn, .int .u32 vk]) (fun q v hv => HCY.out _ (bel_then HGM26.out.bel y.ok) q v hv) Try.underlying75 rfl (by kernel_rfl)
          simp only [pickOps, nth, Act.put, List.setIfInBounds_toArray, List.set_cons_succ, List.set_cons_zero]
          (repeat (go_big_quiet_step (fail)))
          (go_big_quiet_want; refine quiet_row3 75 (.tmp 42) rfl rfl ls0 ?_; go_big_quiet_on)
          simp only [pickOps, nth, Act.put, List.setIfInBounds_toArray, List.set_cons_succ, List.set_cons_zero]
          (repeat (go_big_quiet_step (fail)))
          (go_big_quiet_want; refine quiet_row3 75 (.tmp 52) rfl rfl ls1 ?_; go_big_quiet_on)
          simp only [pickOps, nth, Act.put, List.setIfInBounds_toArray, List.set_cons_succ, List.set_cons_zero]
          (repeat (go_big_quiet_step (fail)))
          refine wpQuiet_nil ?_
          clear lpx lpy lcR1 lcS1 lcP0 lcR0 lcS0 ls0 ls1
          go_wp2_with (fail)
          go_ret
          exact ⟨false, T, rfl, HV.out, HGM26.out, Ke.below _ HB26.out⟩
        have q3 : (uk == vk) = true := by rw [hk, beq_self_eq_true]
        have HV : Hid (MeansOut x.d y.d T ⟨rm, ri⟩ ⟨sm, si⟩ true T) := Lib.hid (out_plain HT.out (fun _ U => (HV1.out U).2 ⟨HQ.out, HNN.out, hk⟩) (by intro h; cases h))
        clear hk
        go_enter Try.func32, Try.ntmps32
        go_wp2_with (fail)
        refine wp_region_mix' [([0, 2], 1), ([], 3)] [4, 5, 6, 7, 8, 9, 10, 11, 12, 13, 14] (by kernel_rfl) (by kernel_rfl) (fun _ _ d _ _ h => by cases d <;> exact h) ?_
        intro wd hbd
        have HB27 := Lib.hid (bel_then HB0.out hbd)
        have HGP27 := Lib.hid (HGP.out.bel hbd)
        have HGR27 := Lib.hid (HGR.out.bel hbd)
        have HGS27 := Lib.hid (HGS.out.bel hbd)
        have HGM27 := Lib.hid (HGM.out.on hbd)
        clear hbd
        refine mix_step ?_
        have ls0 := fun y => (HGR27.out.laterB y).loads (P := Try.prog) Try.underlying34 rfl (by kernel_rfl)
        have ls1 := fun y => (HGS27.out.laterB y).loads (P := Try.prog) Try.underlying34 rfl (by kernel_rfl)
        simp only [pickOps, nth, Act.put, List.setIfInBounds_toArray, List.set_cons_succ, List.set_cons_zero]
        (repeat (go_big_quiet_step (fail)))
        (go_big_quiet_want; refine quiet_row 34 (.tmp 4) rfl rfl ls0 ?_; go_big_quiet_on)
        simp only [pickOps, nth, Act.put, List.setIfInBounds_toArray, List.set_cons_succ, List.set_cons_zero]
        (repeat (go_big_quiet_step (fail)))
        (go_big_quiet_want; refine quiet_row 34 (.tmp 5) rfl rfl ls1 ?_; go_big_quiet_on)
        simp only [pickOps, nth, Act.put, List.setIfInBounds_toArray, List.set_cons_succ, List.set_cons_zero]
        (repeat (go_big_quiet_step (fail)))
        refine wpQuiet_nil ?_
        clear ls0 ls1
        go_wp2_with (refine (HOR.out _).mono ?_; rintro e w28 ⟨rfl, hb⟩; have HBs := Lib.hid hb; have HB28 := Lib.hid (bel_then HB27.out hb); have HGP28 := Lib.hid (HGP27.out.bel hb); have HGR28 := Lib.hid (HGR27.out.bel hb); have HGS28 := Lib.hid (HGS27.out.bel hb); have HGM28 := Lib.hid (HGM27.out.on hb); clear hb)
        refine ⟨HBs.out, mix_step ?_⟩
        simp only [pickOps, nth, Act.put, List.setIfInBounds_toArray, List.set_cons_succ, List.set_cons_zero]
        (repeat (go_big_quiet_step (fail)))
        refine wpQuiet_nil ?_
        go_wp2_with (refine (HOS.out _).mono ?_; rintro e w29 ⟨rfl, hb⟩; have HBs := Lib.hid hb; have HB29 := Lib.hid (bel_then HB28.out hb); have HGP29 := Lib.hid (HGP28.out.bel hb); have HGR29 := Lib.hid (HGR28.out.bel hb); have HGS29 := Lib.hid (HGS28.out.bel hb); have HGM29 := Lib.hid (HGM28.out.on hb); clear hb)
        refine ⟨HBs.out, mix_end ?_⟩
        have lcR0 := fun y => HGR29.out.laterCellB (v := .int .i64 rm) 0 rfl y
        have lcS0 := fun y => HGS29.out.laterCellB (v := .int .i64 sm) 0 rfl y
        simp only [pickOps, nth, Act.put, List.setIfInBounds_toArray, List.set_cons_succ, List.set_cons_zero]
        (repeat (go_big_quiet_step (fail)))
        refine wpQuiet_nil ?_
        clear lcR0 lcS0
        have t0 := (HGR29.out.cell 0).trans (show _ = some (.int .i64 rm) from rfl)
        go_wp2_with (fail)
        clear t0
        have w1i := W1.out.1
        have w1j := W1.out.2
        refine wp_region_mix' [] [0, 1, 2, 3, 4, 5, 6, 7, 8, 9, 10, 11, 12, 13, 14, 15, 16, 17, 18, 19, 20, 21, 22, 23, 24, 25, 26, 27, 28] (by kernel_rfl) (by kernel_rfl) (fun _ _ d _ _ h => by cases d <;> exact h) ?_
        intro wd hbd
        have HB30 := Lib.hid (bel_then HB29.out hbd)
        have HGP30 := Lib.hid (HGP29.out.bel hbd)
        have HGR30 := Lib.hid (HGR29.out.bel hbd)
        have HGS30 := Lib.hid (HGS29.out.bel hbd)
        have HGM30 := Lib.hid (HGM29.out.on hbd)
        clear hbd
        refine mix_end ?_
        have lpx := fun y' => HPX.out _ ((HGM30.out.pr).laterB y')
        have lpy := fun y' => HPY.out _ ((HGM30.out.pr).laterB y')
        have lcR1 := fun y => HGR30.out.laterCellB (v := .int .i64 ri) 1 rfl y
        have lcS1 := fun y => HGS30.out.laterCellB (v := .int .i64 si) 1 rfl y
        have lcP0 := fun y => HGP30.out.laterCellB (v := .pointer (some ⟨gp, 0, none⟩)) 0 rfl y
        have lcR0 := fun y => HGR30.out.laterCellB (v := .int .i64 rm) 0 rfl y
        have lcS0 := fun y => HGS30.out.laterCellB (v := .int .i64 sm) 0 rfl y
        have ls0 : ∀ y : Later (Below wd.heap.size wd), (Instr.loadAt 75 (.pointer (some ⟨xb, (xo + i * 2), none⟩))).run Try.prog y.w = .ok (.agg #[.string un, .int .u32 uk]) y.w := fun y => loads_midM (cs := [.string un, .int .u32 uk]) (fun q v hv => HCX.out _ (bel_then HGM30.out.bel y.ok) q v hv) Try.underlying75 rfl (by kernel_rfl)
        have ls1 : ∀ y : Later (Below wd.heap.size wd), (Instr.loadAt 75 (.pointer (some ⟨yb, (yo + j * 2), none⟩))).run Try.prog y.w = .ok (.agg #[.string vn, .int .u32 vk]) y.w := fun y => loads_midM (cs := [.string vn, .int .u32 vk]) (fun q v hv => HCY.out _ (bel_then HGM30.out.bel y.ok) q v hv) Try.underlying75 rfl (by kernel_rfl)
        simp only [pickOps, nth, Act.put, List.setIfInBounds_toArray, List.set_cons_succ, List.set_cons_zero]
        (repeat (go_big_quiet_step (fail)))
        (go_big_quiet_want; refine quiet_row3 75 (.tmp 42) rfl rfl ls0 ?_; go_big_quiet_on)
        simp only [pickOps, nth, Act.put, List.setIfInBounds_toArray, List.set_cons_succ, List.set_cons_zero]
        (repeat (go_big_quiet_step (fail)))
        (go_big_quiet_want; refine quiet_row3 75 (.tmp 52) rfl rfl ls1 ?_; go_big_quiet_on)
        simp only [pickOps, nth, Act.put, List.setIfInBounds_toArray, List.set_cons_succ, List.set_cons_zero]
        (repeat (go_big_quiet_step (fail)))
        refine wpQuiet_nil ?_
        clear lpx lpy lcR1 lcS1 lcP0 lcR0 lcS0 ls0 ls1
        go_wp2_with (fail)
        go_ret
        exact ⟨true, T, rfl, HV.out, HGM30.out, Ke.below _ HB30.out⟩
  · have HRO := Lib.hid hro
    have HSO := Lib.hid hso
    have HV : Hid (MeansOut x.d y.d T ⟨rm, ri⟩ ⟨sm, si⟩ false T) := Lib.hid (out_plain HT.out (by intro h; cases h) (fun _ U => once_own_ne (r := ⟨rm, ri⟩) (s := ⟨sm, si⟩) (by rw [HRO.out, HSO.out]; decide)))
    rw [hro] at HOR
    rw [hso] at HOS
    clear hro hso
    go_enter Try.func32, Try.ntmps32
    go_wp2_with (fail)
    refine wp_region_mix' [([0, 2], 1), ([], 3)] [4, 5, 6, 7, 8, 9, 10, 11, 12, 13, 14] (by kernel_rfl) (by kernel_rfl) (fun _ _ d _ _ h => by cases d <;> exact h) ?_
    intro wd hbd
    have HB31 := Lib.hid (bel_then HB0.out hbd)
    have HGP31 := Lib.hid (HGP.out.bel hbd)
    have HGR31 := Lib.hid (HGR.out.bel hbd)
    have HGS31 := Lib.hid (HGS.out.bel hbd)
    have HGM31 := Lib.hid (HGM.out.on hbd)
    clear hbd
    refine mix_step ?_
    have ls0 := fun y => (HGR31.out.laterB y).loads (P := Try.prog) Try.underlying34 rfl (by kernel_rfl)
    have ls1 := fun y => (HGS31.out.laterB y).loads (P := Try.prog) Try.underlying34 rfl (by kernel_rfl)
    simp only [pickOps, nth, Act.put, List.setIfInBounds_toArray, List.set_cons_succ, List.set_cons_zero]
    (repeat (go_big_quiet_step (fail)))
    (go_big_quiet_want; refine quiet_row 34 (.tmp 4) rfl rfl ls0 ?_; go_big_quiet_on)
    simp only [pickOps, nth, Act.put, List.setIfInBounds_toArray, List.set_cons_succ, List.set_cons_zero]
    (repeat (go_big_quiet_step (fail)))
    (go_big_quiet_want; refine quiet_row 34 (.tmp 5) rfl rfl ls1 ?_; go_big_quiet_on)
    simp only [pickOps, nth, Act.put, List.setIfInBounds_toArray, List.set_cons_succ, List.set_cons_zero]
    (repeat (go_big_quiet_step (fail)))
    refine wpQuiet_nil ?_
    clear ls0 ls1
    go_wp2_with (refine (HOR.out _).mono ?_; rintro e w32 ⟨rfl, hb⟩; have HBs := Lib.hid hb; have HB32 := Lib.hid (bel_then HB31.out hb); have HGP32 := Lib.hid (HGP31.out.bel hb); have HGR32 := Lib.hid (HGR31.out.bel hb); have HGS32 := Lib.hid (HGS31.out.bel hb); have HGM32 := Lib.hid (HGM31.out.on hb); clear hb)
    refine ⟨HBs.out, mix_step ?_⟩
    simp only [pickOps, nth, Act.put, List.setIfInBounds_toArray, List.set_cons_succ, List.set_cons_zero]
    (repeat (go_big_quiet_step (fail)))
    refine wpQuiet_nil ?_
    go_wp2_with (refine (HOS.out _).mono ?_; rintro e w33 ⟨rfl, hb⟩; have HBs := Lib.hid hb; have HB33 := Lib.hid (bel_then HB32.out hb); have HGP33 := Lib.hid (HGP32.out.bel hb); have HGR33 := Lib.hid (HGR32.out.bel hb); have HGS33 := Lib.hid (HGS32.out.bel hb); have HGM33 := Lib.hid (HGM32.out.on hb); clear hb)
    refine ⟨HBs.out, mix_end ?_⟩
    have lcR0 := fun y => HGR33.out.laterCellB (v := .int .i64 rm) 0 rfl y
    have lcS0 := fun y => HGS33.out.laterCellB (v := .int .i64 sm) 0 rfl y
    simp only [pickOps, nth, Act.put, List.setIfInBounds_toArray, List.set_cons_succ, List.set_cons_zero]
    (repeat (go_big_quiet_step (fail)))
    refine wpQuiet_nil ?_
    clear lcR0 lcS0
    go_wp2_with (fail)
    go_ret
    exact ⟨false, T, rfl, HV.out, HGM33.out, Ke.below _ HB33.out⟩
  · have HRO := Lib.hid hro
    have HSO := Lib.hid hso
    have HV : Hid (MeansOut x.d y.d T ⟨rm, ri⟩ ⟨sm, si⟩ false T) := Lib.hid (out_plain HT.out (by intro h; cases h) (fun _ U => once_own_ne (r := ⟨rm, ri⟩) (s := ⟨sm, si⟩) (by rw [HRO.out, HSO.out]; decide)))
    rw [hro] at HOR
    rw [hso] at HOS
    clear hro hso
    go_enter Try.func32, Try.ntmps32
    go_wp2_with (fail)
    refine wp_region_mix' [([0, 2], 1), ([], 3)] [4, 5, 6, 7, 8, 9, 10, 11, 12, 13, 14] (by kernel_rfl) (by kernel_rfl) (fun _ _ d _ _ h => by cases d <;> exact h) ?_
    intro wd hbd
    have HB34 := Lib.hid (bel_then HB0.out hbd)
    have HGP34 := Lib.hid (HGP.out.bel hbd)
    have HGR34 := Lib.hid (HGR.out.bel hbd)
    have HGS34 := Lib.hid (HGS.out.bel hbd)
    have HGM34 := Lib.hid (HGM.out.on hbd)
    clear hbd
    refine mix_step ?_
    have ls0 := fun y => (HGR34.out.laterB y).loads (P := Try.prog) Try.underlying34 rfl (by kernel_rfl)
    have ls1 := fun y => (HGS34.out.laterB y).loads (P := Try.prog) Try.underlying34 rfl (by kernel_rfl)
    simp only [pickOps, nth, Act.put, List.setIfInBounds_toArray, List.set_cons_succ, List.set_cons_zero]
    (repeat (go_big_quiet_step (fail)))
    (go_big_quiet_want; refine quiet_row 34 (.tmp 4) rfl rfl ls0 ?_; go_big_quiet_on)
    simp only [pickOps, nth, Act.put, List.setIfInBounds_toArray, List.set_cons_succ, List.set_cons_zero]
    (repeat (go_big_quiet_step (fail)))
    (go_big_quiet_want; refine quiet_row 34 (.tmp 5) rfl rfl ls1 ?_; go_big_quiet_on)
    simp only [pickOps, nth, Act.put, List.setIfInBounds_toArray, List.set_cons_succ, List.set_cons_zero]
    (repeat (go_big_quiet_step (fail)))
    refine wpQuiet_nil ?_
    clear ls0 ls1
    go_wp2_with (refine (HOR.out _).mono ?_; rintro e w35 ⟨rfl, hb⟩; have HBs := Lib.hid hb; have HB35 := Lib.hid (bel_then HB34.out hb); have HGP35 := Lib.hid (HGP34.out.bel hb); have HGR35 := Lib.hid (HGR34.out.bel hb); have HGS35 := Lib.hid (HGS34.out.bel hb); have HGM35 := Lib.hid (HGM34.out.on hb); clear hb)
    refine ⟨HBs.out, mix_step ?_⟩
    simp only [pickOps, nth, Act.put, List.setIfInBounds_toArray, List.set_cons_succ, List.set_cons_zero]
    (repeat (go_big_quiet_step (fail)))
    refine wpQuiet_nil ?_
    go_wp2_with (refine (HOS.out _).mono ?_; rintro e w36 ⟨rfl, hb⟩; have HBs := Lib.hid hb; have HB36 := Lib.hid (bel_then HB35.out hb); have HGP36 := Lib.hid (HGP35.out.bel hb); have HGR36 := Lib.hid (HGR35.out.bel hb); have HGS36 := Lib.hid (HGS35.out.bel hb); have HGM36 := Lib.hid (HGM35.out.on hb); clear hb)
    refine ⟨HBs.out, mix_end ?_⟩
    have lcR0 := fun y => HGR36.out.laterCellB (v := .int .i64 rm) 0 rfl y
    have lcS0 := fun y => HGS36.out.laterCellB (v := .int .i64 sm) 0 rfl y
    simp only [pickOps, nth, Act.put, List.setIfInBounds_toArray, List.set_cons_succ, List.set_cons_zero]
    (repeat (go_big_quiet_step (fail)))
    refine wpQuiet_nil ?_
    clear lcR0 lcS0
    go_wp2_with (fail)
    go_ret
    exact ⟨false, T, rfl, HV.out, HGM36.out, Ke.below _ HB36.out⟩
  · obtain ⟨i, hi, hli⟩ := leads_own HR.out hro
    obtain ⟨j, hj, hlj⟩ := leads_own HS.out hso
    rw [hro] at HOR
    rw [hso] at HOS
    obtain ⟨rfl, rfl⟩ := Rf.mk.inj hi
    obtain ⟨rfl, rfl⟩ := Rf.mk.inj hj
    clear hro hso hi hj r1 r2 r3 s1 s2 s3
    have tx := may_types HMX.out
    have ty := may_types HMY.out
    rw [types_len] at hli hlj tx ty
    have HTB : Hid (∀ T', Tk x.d y.d T' → ∀ p ∈ T', p.1 ≤ 1000000 ∧ p.2 ≤ 1000000) := Lib.hid (fun T' h p hp => by have := h.rg p hp; rw [types_len, types_len] at this; omega)
    have HLK : Hid (∀ W, Pr x y w0 W gp Bm T → (Instr.lookup 55 (.map (some Bm)) (twoV 0 (i + 16) 0 (j + 16)) false).run Try.prog W = .ok (.agg #[.bool (decide ((i, j) ∈ T))]) W) := Lib.hid (fun W h => h.look (HTB.out T HT.out) (by omega) (by omega))
    have HKY : Hid (keyOf Try.prog 99 (twoV 0 (i + 16) 0 (j + 16)) = some (twoL 0 (i + 16) 0 (j + 16))) := Lib.hid (two_key16 i j (by omega) (by omega))
    have HPM : Hid (∀ W, At W gp (pairC x y Bm) 57 → W.cell? ⟨gp, 8, none⟩ = some (.map (some Bm))) := Lib.hid (fun W h => (h.cell 8).trans rfl)
    have hfd : ∀ (b : Bool) (w : World), (Instr.field 97 (.agg #[.bool b]) 0).run Try.prog w = .ok (.bool b) w := fun b w => by kernel_rfl
    have g16 : decide ((0 : Int) < 0) = false := rfl
    by_cases hin : (i, j) ∈ T
    · have HD : Hid (decide ((i, j) ∈ T) = true) := Lib.hid (decide_eq_true hin)
      have HV : Hid (MeansOut x.d y.d T ⟨0, i + 16⟩ ⟨0, j + 16⟩ true T) := Lib.hid ⟨Grew.refl HT.out, fun _ => ⟨(once_own rfl rfl).2 hin, fun p hp => .inl hp⟩, by intro h; cases h⟩
      clear hin tx ty
      go_enter Try.func32, Try.ntmps32
      go_wp2_with (fail)
      refine wp_region_mix' [([0, 2], 1), ([], 3)] [4, 5, 6, 7, 8, 9, 10, 11, 12, 13, 14] (by kernel_rfl) (by kernel_rfl) (fun _ _ d _ _ h => by cases d <;> exact h) ?_
      intro wd hbd
      have HB37 := Lib.hid (bel_then HB0.out hbd)
      have HGP37 := Lib.hid (HGP.out.bel hbd)
      have HGR37 := Lib.hid (HGR.out.bel hbd)
      have HGS37 := Lib.hid (HGS.out.bel hbd)
      have HGM37 := Lib.hid (HGM.out.on hbd)
      clear hbd
      refine mix_step ?_
      have ls0 := fun y => (HGR37.out.laterB y).loads (P := Try.prog) Try.underlying34 rfl (by kernel_rfl)
      have ls1 := fun y => (HGS37.out.laterB y).loads (P := Try.prog) Try.underlying34 rfl (by kernel_rfl)
      simp only [pickOps, nth, Act.put, List.setIfInBounds_toArray, List.set_cons_succ, List.set_cons_zero]
      (repeat (go_big_quiet_step (fail)))
      (go_big_quiet_want; refine quiet_row 34 (.tmp 4) rfl rfl ls0 ?_; go_big_quiet_on)
      simp only [pickOps, nth, Act.put, List.setIfInBounds_toArray, List.set_cons_succ, List.set_cons_zero]
      (repeat (go_big_quiet_step (fail)))
      (go_big_quiet_want; refine quiet_row 34 (.tmp 5) rfl rfl ls1 ?_; go_big_quiet_on)
      simp only [pickOps, nth, Act.put, List.setIfInBounds_toArray, List.set_cons_succ, List.set_cons_zero]
      (repeat (go_big_quiet_step (fail)))
      refine wpQuiet_nil ?_
      clear ls0 ls1
      go_wp2_with (refine (HOR.out _).mono ?_; rintro e w38 ⟨rfl, hb⟩; have HBs := Lib.hid hb; have HB38 := Lib.hid (bel_then HB37.out hb); have HGP38 := Lib.hid (HGP37.out.bel hb); have HGR38 := Lib.hid (HGR37.out.bel hb); have HGS38 := Lib.hid (HGS37.out.bel hb); have HGM38 := Lib.hid (HGM37.out.on hb); clear hb)
      refine ⟨HBs.out, mix_step ?_⟩
      simp only [pickOps, nth, Act.put, List.setIfInBounds_toArray, List.set_cons_succ, List.set_cons_zero]
      (repeat (go_big_quiet_step (fail)))
      refine wpQuiet_nil ?_
      go_wp2_with (refine (HOS.out _).mono ?_; rintro e w39 ⟨rfl, hb⟩; have HBs := Lib.hid hb; have HB39 := Lib.hid (bel_then HB38.out hb); have HGP39 := Lib.hid (HGP38.out.bel hb); have HGR39 := Lib.hid (HGR38.out.bel hb); have HGS39 := Lib.hid (HGS38.out.bel hb); have HGM39 := Lib.hid (HGM38.out.on hb); clear hb)
      refine ⟨HBs.out, mix_end ?_⟩
      have lcR0 := fun y => HGR39.out.laterCellB (v := .int .i64 0) 0 rfl y
      have lcS0 := fun y => HGS39.out.laterCellB (v := .int .i64 0) 0 rfl y
      simp only [pickOps, nth, Act.put, List.setIfInBounds_toArray, List.set_cons_succ, List.set_cons_zero]
      (repeat (go_big_quiet_step (fail)))
      refine wpQuiet_nil ?_
      clear lcR0 lcS0
      have t0 := (HGR39.out.cell 0).trans (show _ = some (.int .i64 0) from rfl)
      have fl11 : True := trivial
      have fl12 : True := trivial
      go_wp2_with (first | (have _f := fl11; refine load_sep (cs := #[.int .i64 0, .int .i64 ((i : Int) + 16)]) rfl 34 (.tmp 4) rfl (Sep.one HGR39.out) 0 rfl rfl Try.underlying34 rfl (by kernel_rfl) ?_; clear _f fl11) | (have _f := fl12; refine (HOR.out _).mono ?_; rintro e w40 ⟨rfl, hb⟩; have HB40 := Lib.hid (bel_then HB39.out hb); have HGP40 := Lib.hid (HGP39.out.bel hb); have HGR40 := Lib.hid (HGR39.out.bel hb); have HGS40 := Lib.hid (HGS39.out.bel hb); have HGM40 := Lib.hid (HGM39.out.on hb); clear hb; clear _f fl12))
      refine wp_region_mix' [] [0, 1, 2, 3, 4, 5, 6, 7, 8, 9] (by kernel_rfl) (by kernel_rfl) (fun _ _ d _ _ h => by cases d <;> exact h) ?_
      intro wd hbd
      have HB41 := Lib.hid (bel_then HB40.out hbd)
      have HGP41 := Lib.hid (HGP40.out.bel hbd)
      have HGR41 := Lib.hid (HGR40.out.bel hbd)
      have HGS41 := Lib.hid (HGS40.out.bel hbd)
      have HGM41 := Lib.hid (HGM40.out.on hbd)
      clear hbd
      refine mix_end ?_
      have lpm := fun y' => HPM.out _ ((HGM41.out.pr).laterB y')
      have llk := fun y' : Later (Below wd.heap.size wd) => (HLK.out y'.w (HGM41.out.on y'.ok)).trans (by rw [HD.out])
      have lcP0 := fun y => HGP41.out.laterCellB (v := .pointer (some ⟨gp, 0, none⟩)) 0 rfl y
      have ls0 := fun y => (HGR41.out.laterB y).loads (P := Try.prog) Try.underlying34 rfl (by kernel_rfl)
      have ls1 := fun y => (HGS41.out.laterB y).loads (P := Try.prog) Try.underlying34 rfl (by kernel_rfl)
      simp only [pickOps, nth, Act.put, List.setIfInBounds_toArray, List.set_cons_succ, List.set_cons_zero]
      (repeat (go_big_quiet_step (fail)))
      (go_big_quiet_want; refine quiet_row 34 (.tmp 4) rfl rfl ls0 ?_; go_big_quiet_on)
      simp only [pickOps, nth, Act.put, List.setIfInBounds_toArray, List.set_cons_succ, List.set_cons_zero]
      (repeat (go_big_quiet_step (fail)))
      (go_big_quiet_want; refine quiet_row 34 (.tmp 5) rfl rfl ls1 ?_; go_big_quiet_on)
      simp only [pickOps, nth, Act.put, List.setIfInBounds_toArray, List.set_cons_succ, List.set_cons_zero]
      (repeat (go_big_quiet_step (fail)))
      (go_big_quiet_want; refine quiet_look 55 (.tmp 67) (.tmp 70) rfl (m := .map (some Bm)) (key := twoV 0 (i + 16) 0 (j + 16)) rfl rfl llk ?_; go_big_quiet_on)
      simp only [pickOps, nth, Act.put, List.setIfInBounds_toArray, List.set_cons_succ, List.set_cons_zero]
      (repeat (go_big_quiet_step (fail)))
      refine wpQuiet_nil ?_
      clear lpm llk lcP0 ls0 ls1
      go_wp2_with (fail)
      go_ret
      exact ⟨true, T, rfl, HV.out, HGM41.out, Ke.below _ HB41.out⟩
    have HD : Hid (decide ((i, j) ∈ T) = false) := Lib.hid (decide_eq_false hin)
    have HT1 : Hid (Tk x.d y.d ((i, j) :: T)) := Lib.hid (HT.out.cons (by rw [types_len]; exact hli) (by rw [types_len]; exact hlj) hin)
    have HG1 := Lib.hid (Grew.cons HT1.out)
    have HN1 : Hid (x.d.types.length * y.d.types.length < ((i, j) :: T).length + N) := Lib.hid (by have := HN.out; rw [List.length_cons]; omega)
    have HTN : Hid (T.length < maxLen) := Lib.hid (by have := pairs_le HT.out; have h2 : x.d.types.length * y.d.types.length ≤ 200 * 200 := Nat.mul_le_mul (by rw [types_len]; omega) (by rw [types_len]; omega); unfold maxLen; omega)
    obtain ⟨⟨xf, xe, xs, ⟨xm, xi⟩, ⟨xfa, xfc, xfl⟩⟩, hu⟩ := get_lt hli
    obtain ⟨⟨yf, ye, ys, ⟨ym, yi⟩, ⟨yfa, yfc, yfl⟩⟩, hv⟩ := get_lt hlj
    have HTX := Lib.hid (types_get hu)
    have HTY := Lib.hid (types_get hv)
    have HLX := Lib.hid (leads_type HMX.out (List.mem_of_getElem? (types_get hu)))
    have HLY := Lib.hid (leads_type HMY.out (List.mem_of_getElem? (types_get hv)))
    have HOX := Lib.hid (HX.out.types.all _ (List.mem_of_getElem? hu))
    have HOY := Lib.hid (HY.out.types.all _ (List.mem_of_getElem? hv))
    obtain ⟨xa, xc, xl, hx⟩ : ∃ a c l, x.types = ⟨a, c, l⟩ := ⟨_, _, _, rfl⟩
    have HxI := Lib.hid hx
    obtain ⟨xb, xo, hatx, hclx⟩ := HX.out.types.at'
    have hlex := HX.out.types.row.le
    rw [hx] at hatx hclx hlex hli hu
    dsimp only at hatx hclx hlex hli hu
    obtain ⟨rfl, hbx⟩ := hatx (by omega)
    obtain ⟨ya, yc, yl, hy⟩ : ∃ a c l, y.types = ⟨a, c, l⟩ := ⟨_, _, _, rfl⟩
    have HyI := Lib.hid hy
    obtain ⟨yb, yo, haty, hcly⟩ := HY.out.types.at'
    have hley := HY.out.types.row.le
    rw [hy] at haty hcly hley hlj hv
    dsimp only at haty hcly hley hlj hv
    obtain ⟨rfl, hby⟩ := haty (by omega)
    have HCX : Hid (∀ W, Below w0.heap.size w0 W → ∀ (q : Nat) (v : Value), ([.int .i64 xf, .int .i64 xe, .int .i64 xs, .int .i64 xm, .int .i64 xi, .slice xfa xfl.length xfc] : List Value)[q]? = some v → W.cell? ⟨xb, xo + i * 6 + q, none⟩ = some v) := Lib.hid (fun W k q v hq => (k.cell (p := ⟨xb, xo + i * 6 + q, none⟩) hbx).trans (hclx i _ hu q v hq))
    have HCY : Hid (∀ W, Below w0.heap.size w0 W → ∀ (q : Nat) (v : Value), ([.int .i64 yf, .int .i64 ye, .int .i64 ys, .int .i64 ym, .int .i64 yi, .slice yfa yfl.length yfc] : List Value)[q]? = some v → W.cell? ⟨yb, yo + j * 6 + q, none⟩ = some v) := Lib.hid (fun W k q v hq => (k.cell (p := ⟨yb, yo + j * 6 + q, none⟩) hby).trans (hcly j _ hv q v hq))
    have HPX : Hid (∀ W, At W gp (pairC x y Bm) 57 → W.cell? ⟨gp, 2, none⟩ = some (.slice (some ⟨xb, xo, none⟩) xl.length xc)) := Lib.hid (fun W h => (h.cell 2).trans (by show some x.types.val = _; rw [HxI.out]; rfl))
    have HPY : Hid (∀ W, At W gp (pairC x y Bm) 57 → W.cell? ⟨gp, 6, none⟩ = some (.slice (some ⟨yb, yo, none⟩) yl.length yc)) := Lib.hid (fun W h => (h.cell 6).trans (by show some y.types.val = _; rw [HyI.out]; rfl))
    have HBX := Lib.hid hbx
    have HBY := Lib.hid hby
    have SMX : Hid (xfl.length ≤ 1000000) := Lib.hid (fields_le HMX.out (List.mem_of_getElem? HTX.out))
    have SMY : Hid (yfl.length ≤ 1000000) := Lib.hid (fields_le HMY.out (List.mem_of_getElem? HTY.out))
    have li1 : (i : Int) < xl.length := by omega
    have lj1 : (j : Int) < yl.length := by omega
    have li2 : (i : Int) < xc := by omega
    have lj2 : (j : Int) < yc := by omega
    have i200 : (i : Int) ≤ 200 := by rw [HxI.out] at tx; dsimp only at tx; omega
    have j200 : (j : Int) ≤ 200 := by rw [HyI.out] at ty; dsimp only at ty; omega
    have W1 : Hid (IntKind.i64.wrap ((i : Int) + 16 - 16) = i ∧ IntKind.i64.wrap ((j : Int) + 16 - 16) = j) := Lib.hid ⟨by rw [show (i : Int) + 16 - 16 = i by omega]; exact IntWalk.i64_in _ (by omega), by rw [show (j : Int) + 16 - 16 = j by omega]; exact IntWalk.i64_in _ (by omega)⟩
    clear tx ty hx hy hatx haty hclx hcly hlex hley hli hlj hu hv hbx hby hin
    have HSN := Lib.hid (fun w' : World => Sep.nil w')
    go_enter Try.func32, Try.ntmps32
    go_wp2_with (fail)
    refine wp_region_mix' [([0, 2], 1), ([], 3)] [4, 5, 6, 7, 8, 9, 10, 11, 12, 13, 14] (by kernel_rfl) (by kernel_rfl) (fun _ _ d _ _ h => by cases d <;> exact h) ?_
    intro wd hbd
    have HB42 := Lib.hid (bel_then HB0.out hbd)
    have HGP42 := Lib.hid (HGP.out.bel hbd)
    have HGR42 := Lib.hid (HGR.out.bel hbd)
    have HGS42 := Lib.hid (HGS.out.bel hbd)
    have HGM42 := Lib.hid (HGM.out.on hbd)
    clear hbd
    refine mix_step ?_
    have ls0 := fun y => (HGR42.out.laterB y).loads (P := Try.prog) Try.underlying34 rfl (by kernel_rfl)
    have ls1 := fun y => (HGS42.out.laterB y).loads (P := Try.prog) Try.underlying34 rfl (by kernel_rfl)
    simp only [pickOps, nth, Act.put, List.setIfInBounds_toArray, List.set_cons_succ, List.set_cons_zero]
    (repeat (go_big_quiet_step (fail)))
    (go_big_quiet_want; refine quiet_row 34 (.tmp 4) rfl rfl ls0 ?_; go_big_quiet_on)
    simp only [pickOps, nth, Act.put, List.setIfInBounds_toArray, List.set_cons_succ, List.set_cons_zero]
    (repeat (go_big_quiet_step (fail)))
    (go_big_quiet_want; refine quiet_row 34 (.tmp 5) rfl rfl ls1 ?_; go_big_quiet_on)
    simp only [pickOps, nth, Act.put, List.setIfInBounds_toArray, List.set_cons_succ, List.set_cons_zero]
    (repeat (go_big_quiet_step (fail)))
    refine wpQuiet_nil ?_
    clear ls0 ls1
    go_wp2_with (refine (HOR.out _).mono ?_; rintro e w43 ⟨rfl, hb⟩; have HBs := Lib.hid hb; have HB43 := Lib.hid (bel_then HB42.out hb); have HGP43 := Lib.hid (HGP42.out.bel hb); have HGR43 := Lib.hid (HGR42.out.bel hb); have HGS43 := Lib.hid (HGS42.out.bel hb); have HGM43 := Lib.hid (HGM42.out.on hb); clear hb)
    refine ⟨HBs.out, mix_step ?_⟩
    simp only [pickOps, nth, Act.put, List.setIfInBounds_toArray, List.set_cons_succ, List.set_cons_zero]
    (repeat (go_big_quiet_step (fail)))
    refine wpQuiet_nil ?_
    go_wp2_with (refine (HOS.out _).mono ?_; rintro e w44 ⟨rfl, hb⟩; have HBs := Lib.hid hb; have HB44 := Lib.hid (bel_then HB43.out hb); have HGP44 := Lib.hid (HGP43.out.bel hb); have HGR44 := Lib.hid (HGR43.out.bel hb); have HGS44 := Lib.hid (HGS43.out.bel hb); have HGM44 := Lib.hid (HGM43.out.on hb); clear hb)
    refine ⟨HBs.out, mix_end ?_⟩
    have lcR0 := fun y => HGR44.out.laterCellB (v := .int .i64 0) 0 rfl y
    have lcS0 := fun y => HGS44.out.laterCellB (v := .int .i64 0) 0 rfl y
    simp only [pickOps, nth, Act.put, List.setIfInBounds_toArray, List.set_cons_succ, List.set_cons_zero]
    (repeat (go_big_quiet_step (fail)))
    refine wpQuiet_nil ?_
    clear lcR0 lcS0
    have t0 := (HGR44.out.cell 0).trans (show _ = some (.int .i64 0) from rfl)
    have fl13 : True := trivial
    have fl14 : True := trivial
    go_wp2_with (first | (have _f := fl13; refine load_sep (cs := #[.int .i64 0, .int .i64 ((i : Int) + 16)]) rfl 34 (.tmp 4) rfl (Sep.one HGR44.out) 0 rfl rfl Try.underlying34 rfl (by kernel_rfl) ?_; clear _f fl13) | (have _f := fl14; refine (HOR.out _).mono ?_; rintro e w45 ⟨rfl, hb⟩; have HB45 := Lib.hid (bel_then HB44.out hb); have HGP45 := Lib.hid (HGP44.out.bel hb); have HGR45 := Lib.hid (HGR44.out.bel hb); have HGS45 := Lib.hid (HGS44.out.bel hb); have HGM45 := Lib.hid (HGM44.out.on hb); clear hb; clear _f fl14))
    refine wp_region_mix' [] [0, 1, 2, 3, 4, 5, 6, 7, 8, 9] (by kernel_rfl) (by kernel_rfl) (fun _ _ d _ _ h => by cases d <;> exact h) ?_
    intro wd hbd
    have HB46 := Lib.hid (bel_then HB45.out hbd)
    have HGP46 := Lib.hid (HGP45.out.bel hbd)
    have HGR46 := Lib.hid (HGR45.out.bel hbd)
    have HGS46 := Lib.hid (HGS45.out.bel hbd)
    have HGM46 := Lib.hid (HGM45.out.on hbd)
    clear hbd
    refine mix_end ?_
    have lpm := fun y' => HPM.out _ ((HGM46.out.pr).laterB y')
    have llk := fun y' : Later (Below wd.heap.size wd) => (HLK.out y'.w (HGM46.out.on y'.ok)).trans (by rw [HD.out])
    have lcP0 := fun y => HGP46.out.laterCellB (v := .pointer (some ⟨gp, 0, none⟩)) 0 rfl y
    have ls0 := fun y => (HGR46.out.laterB y).loads (P := Try.prog) Try.underlying34 rfl (by kernel_rfl)
    have ls1 := fun y => (HGS46.out.laterB y).loads (P := Try.prog) Try.underlying34 rfl (by kernel_rfl)
    simp only [pickOps, nth, Act.put, List.setIfInBounds_toArray, List.set_cons_succ, List.set_cons_zero]
    (repeat (go_big_quiet_step (fail)))
    (go_big_quiet_want; refine quiet_row 34 (.tmp 4) rfl rfl ls0 ?_; go_big_quiet_on)
    simp only [pickOps, nth, Act.put, List.setIfInBounds_toArray, List.set_cons_succ, List.set_cons_zero]
    (repeat (go_big_quiet_step (fail)))
    (go_big_quiet_want; refine quiet_row 34 (.tmp 5) rfl rfl ls1 ?_; go_big_quiet_on)
    simp only [pickOps, nth, Act.put, List.setIfInBounds_toArray, List.set_cons_succ, List.set_cons_zero]
    (repeat (go_big_quiet_step (fail)))
    (go_big_quiet_want; refine quiet_look 55 (.tmp 67) (.tmp 70) rfl (m := .map (some Bm)) (key := twoV 0 (i + 16) 0 (j + 16)) rfl rfl llk ?_; go_big_quiet_on)
    simp only [pickOps, nth, Act.put, List.setIfInBounds_toArray, List.set_cons_succ, List.set_cons_zero]
    (repeat (go_big_quiet_step (fail)))
    refine wpQuiet_nil ?_
    clear lpm llk lcP0 ls0 ls1
    go_wp2_with (fail)
    refine wp_region_mixK (· = Bm) [([0, 1, 2, 3, 4, 5, 6, 7], 8)] [] (by kernel_rfl) (by kernel_rfl) (fun _ _ d _ _ h => by cases d <;> exact h) ?_
    intro wd hbd
    have HB47 := Lib.hid (bel_then HB46.out hbd)
    have HGP47 := Lib.hid (HGP46.out.bel hbd)
    have HGR47 := Lib.hid (HGR46.out.bel hbd)
    have HGS47 := Lib.hid (HGS46.out.bel hbd)
    have HGM47 := Lib.hid (HGM46.out.on hbd)
    clear hbd
    have lP := fun y' => HGP47.out.laterCell (G := (· = Bm)) (HGM47.out.nm HGP47.out) (v := .pointer (some ⟨gp, 0, none⟩)) 0 rfl y'
    have lM := fun y' : Later (Ke (· = Bm) wd) => HPM.out _ (HGM47.out.pr.later (G := (· = Bm)) HGM47.out.ne y')
    have lR := fun y' : Later (Ke (· = Bm) wd) => (HGR47.out.later (G := (· = Bm)) (HGM47.out.nm HGR47.out) y').loads (P := Try.prog) Try.underlying34 rfl (by kernel_rfl)
    have lS := fun y' : Later (Ke (· = Bm) wd) => (HGS47.out.later (G := (· = Bm)) (HGM47.out.nm HGS47.out) y').loads (P := Try.prog) Try.underlying34 rfl (by kernel_rfl)
    refine mixK_step ?_
    simp only [pickOps, nth, Act.put, List.setIfInBounds_toArray, List.set_cons_succ, List.set_cons_zero]
    (repeat (go_big_quiet_step (fail)))
    (go_big_quiet_want; refine quiet_row 34 (.tmp 4) rfl rfl lR ?_; go_big_quiet_on)
    simp only [pickOps, nth, Act.put, List.setIfInBounds_toArray, List.set_cons_succ, List.set_cons_zero]
    (repeat (go_big_quiet_step (fail)))
    (go_big_quiet_want; refine quiet_row 34 (.tmp 5) rfl rfl lS ?_; go_big_quiet_on)
    simp only [pickOps, nth, Act.put, List.setIfInBounds_toArray, List.set_cons_succ, List.set_cons_zero]
    (repeat (go_big_quiet_step (fail)))
    refine wpQuiet_nil ?_
    clear lP lM lR lS
    refine wpList_set rfl (.tmp 76) (.tmp 79) (.tmp 80) 55 rfl HGM47.out.map two_keyed Try.underlying55 HTN.out rfl (key := twoV 0 (i + 16) 0 (j + 16)) rfl HKY.out (bv := true) rfl (twoQ ((i, j) :: T)) ⟨fun _ => rfl, fun _ => (twoQ_cons i j _).2 (.inl rfl)⟩ (fun z hz => (twoQ_cons i j z).trans ⟨fun h => h.resolve_left hz, .inr⟩) ?_
    intro wz hmz hkz
    have HGMz := Lib.hid (HGM47.out.put hmz hkz)
    have HKZ := Lib.hid hkz
    have HGPz := Lib.hid (HGP47.out.ke hkz (HGM47.out.nm HGP47.out))
    have HGRz := Lib.hid (HGR47.out.ke hkz (HGM47.out.nm HGR47.out))
    have HGSz := Lib.hid (HGS47.out.ke hkz (HGM47.out.nm HGS47.out))
    have HKW : Hid (Ke (· = Bm) w wz) := Lib.hid ((Ke.below _ HB47.out).trans hkz)
    clear hmz hkz
    refine ⟨HKZ.out, mixK_end ?_⟩
    simp only [pickOps, nth, Act.put, List.setIfInBounds_toArray, List.set_cons_succ, List.set_cons_zero]
    refine wpQuiet_nil ?_
    clear HGP47 HGR47 HGS47 HGM47 HB47 HLK HD HKZ HKY HTN HT HN HTB hfd HOR HOS HPM
    go_wp2_with (fail)
    go_cut [7, 8] (fun px py wr => ∃ gx gy : Nat, px = .pointer (some ⟨gx, 0, none⟩) ∧ py = .pointer (some ⟨gy, 0, none⟩) ∧ At wr gx #[.int .i64 xf, .int .i64 xe, .int .i64 xs, .int .i64 xm, .int .i64 xi, .slice xfa xfl.length xfc] 53 ∧ At wr gy #[.int .i64 yf, .int .i64 ye, .int .i64 ys, .int .i64 ym, .int .i64 yi, .slice yfa yfl.length yfc] 53 ∧ Below wz.heap.size wz wr)
    case first =>
      refine wp_region_rest (fun i' : Nat => wz.heap.size ≤ i') 24 (by kernel_rfl) rfl ?_
      intro wd hbd
      have HBd := Lib.hid hbd
      have HGMd := Lib.hid (HGMz.out.on hbd)
      have HGPd := Lib.hid (HGPz.out.bel hbd)
      have HGRd := Lib.hid (HGRz.out.bel hbd)
      have HGSd := Lib.hid (HGSz.out.bel hbd)
      clear hbd
      have nGP : ¬ wz.heap.size ≤ w.heap.size := Nat.not_le.2 HGPz.out.lt
      have nGR : ¬ wz.heap.size ≤ (w.heap.size + 1) := Nat.not_le.2 HGRz.out.lt
      have nGS : ¬ wz.heap.size ≤ (w.heap.size + 2) := Nat.not_le.2 HGSz.out.lt
      have nGp : ¬ wz.heap.size ≤ gp := Nat.not_le.2 HGMz.out.pr.lt
      have nGx : ¬ wz.heap.size ≤ xb := Nat.not_le.2 (Nat.lt_of_lt_of_le HBX.out HGMz.out.bel.size)
      have nGy : ¬ wz.heap.size ≤ yb := Nat.not_le.2 (Nat.lt_of_lt_of_le HBY.out HGMz.out.bel.size)
      have lP := fun y' => HGPd.out.laterCell (G := (fun i' : Nat => wz.heap.size ≤ i')) nGP (v := .pointer (some ⟨gp, 0, none⟩)) 0 rfl y'
      have lR := fun y' => HGRd.out.laterCell (G := (fun i' : Nat => wz.heap.size ≤ i')) nGR (v := .int .i64 ((i : Int) + 16)) 1 rfl y'
      have lS := fun y' => HGSd.out.laterCell (G := (fun i' : Nat => wz.heap.size ≤ i')) nGS (v := .int .i64 ((j : Int) + 16)) 1 rfl y'
      have lX := fun y' : Later (Ke (fun i' : Nat => wz.heap.size ≤ i') wd) => HPX.out _ (HGMd.out.pr.later (G := (fun i' : Nat => wz.heap.size ≤ i')) nGp y')
      have lY := fun y' : Later (Ke (fun i' : Nat => wz.heap.size ≤ i') wd) => HPY.out _ (HGMd.out.pr.later (G := (fun i' : Nat => wz.heap.size ≤ i')) nGp y')
      have lxr : ∀ y' : Later (Ke (fun i' : Nat => wz.heap.size ≤ i') wd), (Instr.loadAt 53 (.pointer (some ⟨xb, xo + i * 6, none⟩))).run Try.prog y'.w = .ok (.agg #[.int .i64 xf, .int .i64 xe, .int .i64 xs, .int .i64 xm, .int .i64 xi, .slice xfa xfl.length xfc]) y'.w := fun y' => loads_midM (cs := [.int .i64 xf, .int .i64 xe, .int .i64 xs, .int .i64 xm, .int .i64 xi, .slice xfa xfl.length xfc]) (fun q v hv => ke_cellM (p := ⟨xb, xo + i * 6 + q, none⟩) y'.ok (Nat.lt_of_lt_of_le (Nat.not_le.1 nGx) HBd.out.size) nGx (HCX.out _ HGMd.out.bel q v hv)) Try.underlying53 rfl (by kernel_rfl)
      have lyr : ∀ y' : Later (Ke (fun i' : Nat => wz.heap.size ≤ i') wd), (Instr.loadAt 53 (.pointer (some ⟨yb, yo + j * 6, none⟩))).run Try.prog y'.w = .ok (.agg #[.int .i64 yf, .int .i64 ye, .int .i64 ys, .int .i64 ym, .int .i64 yi, .slice yfa yfl.length yfc]) y'.w := fun y' => loads_midM (cs := [.int .i64 yf, .int .i64 ye, .int .i64 ys, .int .i64 ym, .int .i64 yi, .slice yfa yfl.length yfc]) (fun q v hv => ke_cellM (p := ⟨yb, yo + j * 6 + q, none⟩) y'.ok (Nat.lt_of_lt_of_le (Nat.not_le.1 nGy) HBd.out.size) nGy (HCY.out _ HGMd.out.bel q v hv)) Try.underlying53 rfl (by kernel_rfl)
      have w1i := W1.out.1
      have w1j := W1.out.2
      refine rest_step [0, 1, 2, 3, 4, 5, 6, 7, 8, 9, 10, 11, 12, 13, 14, 15, 16, 17, 18, 19] [20, 21] (by kernel_rfl) (fun _ _ d _ _ h => by cases d <;> exact h) (by kernel_rfl) rfl (by kernel_rfl) (by decide) rfl ?_
      simp only [pickOps, nth, Act.put, List.setIfInBounds_toArray, List.set_cons_succ, List.set_cons_zero]
      (repeat (go_big_quiet_step (fail)))
      (go_big_quiet_want; refine quiet_row3 53 (.tmp 89) rfl rfl lxr ?_; go_big_quiet_on)
      simp only [pickOps, nth, Act.put, List.setIfInBounds_toArray, List.set_cons_succ, List.set_cons_zero]
      (repeat (go_big_quiet_step (fail)))
      (go_big_quiet_want; refine quiet_row3 53 (.tmp 99) rfl rfl lyr ?_; go_big_quiet_on)
      simp only [pickOps, nth, Act.put, List.setIfInBounds_toArray, List.set_cons_succ, List.set_cons_zero]
      (repeat (go_big_quiet_step (fail)))
      refine wpQuiet_nil ?_
      clear lP lR lS lX lY lxr lyr w1i w1j nGP nGR nGS nGp nGx nGy
      have hd : wz.heap.size ≤ wd.heap.size := HBd.out.size
      refine all2 ?_ ?_
      · skip
        simp only [pickOps, nth, Act.put, List.setIfInBounds_toArray, List.set_cons_succ, List.set_cons_zero]
        refine alloc_sep rfl 53 rfl (Sep.nil wd) (z := .agg #[.int .i64 0, .int .i64 0, .int .i64 0, .int .i64 0, .int .i64 0, .slice none 0 0]) (cs := #[.int .i64 0, .int .i64 0, .int .i64 0, .int .i64 0, .int .i64 0, .slice none 0 0]) (by kernel_rfl) rfl ?_
        intro w1 S1 b1 z1
        refine ⟨Ke.below _ b1, rest_step [] [21] (by kernel_rfl) (fun _ _ d _ _ h => by cases d <;> exact h) (by kernel_rfl) rfl (by kernel_rfl) (by decide) rfl ?_⟩
        simp only [pickOps, nth, Act.put, List.setIfInBounds_toArray, List.set_cons_succ, List.set_cons_zero]
        refine wpQuiet_nil ?_
        refine all1 ?_
        simp only [pickOps, nth, Act.put, List.setIfInBounds_toArray, List.set_cons_succ, List.set_cons_zero]
        refine alloc_sep rfl 53 rfl S1 (z := .agg #[.int .i64 0, .int .i64 0, .int .i64 0, .int .i64 0, .int .i64 0, .slice none 0 0]) (cs := #[.int .i64 0, .int .i64 0, .int .i64 0, .int .i64 0, .int .i64 0, .slice none 0 0]) (by kernel_rfl) rfl ?_
        intro w2 S2 b2 z2
        refine ⟨Ke.below _ b2, rest_step [] [22] (by kernel_rfl) (fun _ _ d _ _ h => by cases d <;> exact h) (by kernel_rfl) rfl (by kernel_rfl) (by decide) rfl ?_⟩
        simp only [pickOps, nth, Act.put, List.setIfInBounds_toArray, List.set_cons_succ, List.set_cons_zero]
        refine wpQuiet_nil ?_
        refine all1 ?_
        simp only [pickOps, nth, Act.put, List.setIfInBounds_toArray, List.set_cons_succ, List.set_cons_zero]
        refine store_sep (cells := #[.int .i64 xf, .int .i64 xe, .int .i64 xs, .int .i64 xm, .int .i64 xi, .slice xfa xfl.length xfc]) rfl 53 (.tmp 7) (.tmp 90) rfl S2 1 rfl rfl rfl (by kernel_rfl) rfl rfl ?_
        intro w3 S3 k3 z3
        refine ⟨k3.mono (fun i' _ e => by subst e; omega), rest_step [] [23] (by kernel_rfl) (fun _ _ d _ _ h => by cases d <;> exact h) (by kernel_rfl) rfl (by kernel_rfl) (by decide) rfl ?_⟩
        simp only [pickOps, nth, Act.put, List.setIfInBounds_toArray, List.set_cons_succ, List.set_cons_zero]
        refine wpQuiet_nil ?_
        refine all1 ?_
        simp only [pickOps, nth, Act.put, List.setIfInBounds_toArray, List.set_cons_succ, List.set_cons_zero]
        refine store_sep (cells := #[.int .i64 yf, .int .i64 ye, .int .i64 ys, .int .i64 ym, .int .i64 yi, .slice yfa yfl.length yfc]) rfl 53 (.tmp 8) (.tmp 100) rfl S3 0 rfl rfl rfl (by kernel_rfl) rfl rfl ?_
        intro w4 S4 k4 z4
        refine ⟨k4.mono (fun i' _ e => by subst e; omega), rest_end [] (by kernel_rfl) (fun _ _ d _ _ h => by cases d <;> exact h) (by kernel_rfl) (by kernel_rfl) rfl ?_⟩
        simp only [pickOps, nth, Act.put, List.setIfInBounds_toArray, List.set_cons_succ, List.set_cons_zero]
        refine wpQuiet_nil ?_
        have HE : Hid (∃ gx gy : Nat, Value.pointer (some ⟨wd.heap.size, 0, none⟩) = .pointer (some ⟨gx, 0, none⟩) ∧ Value.pointer (some ⟨w1.heap.size, 0, none⟩) = .pointer (some ⟨gy, 0, none⟩) ∧ At w4 gx #[.int .i64 xf, .int .i64 xe, .int .i64 xs, .int .i64 xm, .int .i64 xi, .slice xfa xfl.length xfc] 53 ∧ At w4 gy #[.int .i64 yf, .int .i64 ye, .int .i64 ys, .int .i64 ym, .int .i64 yi, .slice yfa yfl.length yfc] 53 ∧ Below wz.heap.size wz w4) := Lib.hid ⟨_, _, rfl, rfl, S4.at 1 rfl, S4.at 0 rfl, HBd.out.trans (b1.mono hd |>.trans (b2.mono (by omega)) |>.trans (k3.toBelow' (fun i' h e => by subst e; omega) (by omega)) |>.trans (k4.toBelow' (fun i' h e => by subst e; omega) (by omega)))⟩
        clear S1 S2 S3 S4 b1 b2 k3 k4 z1 z2 z3 z4 hd
        go_wp2_with (fail)
        go_meet
        exact HE.out
      · skip
        simp only [pickOps, nth, Act.put, List.setIfInBounds_toArray, List.set_cons_succ, List.set_cons_zero]
        refine alloc_sep rfl 53 rfl (Sep.nil wd) (z := .agg #[.int .i64 0, .int .i64 0, .int .i64 0, .int .i64 0, .int .i64 0, .slice none 0 0]) (cs := #[.int .i64 0, .int .i64 0, .int .i64 0, .int .i64 0, .int .i64 0, .slice none 0 0]) (by kernel_rfl) rfl ?_
        intro w1 S1 b1 z1
        refine ⟨Ke.below _ b1, rest_step [] [20] (by kernel_rfl) (fun _ _ d _ _ h => by cases d <;> exact h) (by kernel_rfl) rfl (by kernel_rfl) (by decide) rfl ?_⟩
        simp only [pickOps, nth, Act.put, List.setIfInBounds_toArray, List.set_cons_succ, List.set_cons_zero]
        refine wpQuiet_nil ?_
        refine all1 ?_
        simp only [pickOps, nth, Act.put, List.setIfInBounds_toArray, List.set_cons_succ, List.set_cons_zero]
        refine alloc_sep rfl 53 rfl S1 (z := .agg #[.int .i64 0, .int .i64 0, .int .i64 0, .int .i64 0, .int .i64 0, .slice none 0 0]) (cs := #[.int .i64 0, .int .i64 0, .int .i64 0, .int .i64 0, .int .i64 0, .slice none 0 0]) (by kernel_rfl) rfl ?_
        intro w2 S2 b2 z2
        refine ⟨Ke.below _ b2, rest_step [] [22] (by kernel_rfl) (fun _ _ d _ _ h => by cases d <;> exact h) (by kernel_rfl) rfl (by kernel_rfl) (by decide) rfl ?_⟩
        simp only [pickOps, nth, Act.put, List.setIfInBounds_toArray, List.set_cons_succ, List.set_cons_zero]
        refine wpQuiet_nil ?_
        refine all1 ?_
        simp only [pickOps, nth, Act.put, List.setIfInBounds_toArray, List.set_cons_succ, List.set_cons_zero]
        refine store_sep (cells := #[.int .i64 xf, .int .i64 xe, .int .i64 xs, .int .i64 xm, .int .i64 xi, .slice xfa xfl.length xfc]) rfl 53 (.tmp 7) (.tmp 90) rfl S2 0 rfl rfl rfl (by kernel_rfl) rfl rfl ?_
        intro w3 S3 k3 z3
        refine ⟨k3.mono (fun i' _ e => by subst e; omega), rest_step [] [23] (by kernel_rfl) (fun _ _ d _ _ h => by cases d <;> exact h) (by kernel_rfl) rfl (by kernel_rfl) (by decide) rfl ?_⟩
        simp only [pickOps, nth, Act.put, List.setIfInBounds_toArray, List.set_cons_succ, List.set_cons_zero]
        refine wpQuiet_nil ?_
        refine all1 ?_
        simp only [pickOps, nth, Act.put, List.setIfInBounds_toArray, List.set_cons_succ, List.set_cons_zero]
        refine store_sep (cells := #[.int .i64 yf, .int .i64 ye, .int .i64 ys, .int .i64 ym, .int .i64 yi, .slice yfa yfl.length yfc]) rfl 53 (.tmp 8) (.tmp 100) rfl S3 1 rfl rfl rfl (by kernel_rfl) rfl rfl ?_
        intro w4 S4 k4 z4
        refine ⟨k4.mono (fun i' _ e => by subst e; omega), rest_end [] (by kernel_rfl) (fun _ _ d _ _ h => by cases d <;> exact h) (by kernel_rfl) (by kernel_rfl) rfl ?_⟩
        simp only [pickOps, nth, Act.put, List.setIfInBounds_toArray, List.set_cons_succ, List.set_cons_zero]
        refine wpQuiet_nil ?_
        have HE : Hid (∃ gx gy : Nat, Value.pointer (some ⟨w1.heap.size, 0, none⟩) = .pointer (some ⟨gx, 0, none⟩) ∧ Value.pointer (some ⟨wd.heap.size, 0, none⟩) = .pointer (some ⟨gy, 0, none⟩) ∧ At w4 gx #[.int .i64 xf, .int .i64 xe, .int .i64 xs, .int .i64 xm, .int .i64 xi, .slice xfa xfl.length xfc] 53 ∧ At w4 gy #[.int .i64 yf, .int .i64 ye, .int .i64 ys, .int .i64 ym, .int .i64 yi, .slice yfa yfl.length yfc] 53 ∧ Below wz.heap.size wz w4) := Lib.hid ⟨_, _, rfl, rfl, S4.at 0 rfl, S4.at 1 rfl, HBd.out.trans (b1.mono hd |>.trans (b2.mono (by omega)) |>.trans (k3.toBelow' (fun i' h e => by subst e; omega) (by omega)) |>.trans (k4.toBelow' (fun i' h e => by subst e; omega) (by omega)))⟩
        clear S1 S2 S3 S4 b1 b2 k3 k4 z1 z2 z3 z4 hd
        go_wp2_with (fail)
        go_meet
        exact HE.out
    case rest =>
      obtain ⟨wr, rfl⟩ : ∃ v : World, v = wc := ⟨_, rfl⟩
      obtain ⟨gx, gy, rfl, rfl, hax, hay, hb⟩ := hcut
      have HGX := Lib.hid hax
      have HGY := Lib.hid hay
      have HGMr := Lib.hid (HGMz.out.on hb)
      have HGPr := Lib.hid (HGPz.out.bel hb)
      have HKR : Hid (Ke (· = Bm) w wr) := Lib.hid (HKW.out.trans (Ke.below _ hb))
      clear hax hay hb HGMz HGPz HGRz HGSz HKW W1 HSN HCX HCY HPX HPY HBX HBY li1 lj1 li2 lj2 i200 j200 g16
      have cx0 := (HGX.out.cell 0).trans (show _ = some (.int .i64 xf) from rfl)
      have cx1 := (HGX.out.cell 1).trans (show _ = some (.int .i64 xe) from rfl)
      have cx2 := (HGX.out.cell 2).trans (show _ = some (.int .i64 xs) from rfl)
      have cx5 := (HGX.out.cell 5).trans (show _ = some (.slice xfa xfl.length xfc) from rfl)
      have cy0 := (HGY.out.cell 0).trans (show _ = some (.int .i64 yf) from rfl)
      have cy1 := (HGY.out.cell 1).trans (show _ = some (.int .i64 ye) from rfl)
      have cy2 := (HGY.out.cell 2).trans (show _ = some (.int .i64 ys) from rfl)
      have cy5 := (HGY.out.cell 5).trans (show _ = some (.slice yfa yfl.length yfc) from rfl)
      have HOUT : Hid (∀ (ok : Bool) (T' : List (Nat × Nat)), Grew x.d y.d ((i, j) :: T) T' → (ok = true → formsP x.d y.d (inT T') ⟨xf, xe, xs, ⟨xm, xi⟩, xfl⟩ ⟨yf, ye, ys, ⟨ym, yi⟩, yfl⟩ ∧ Holds x.d y.d ((i, j) :: T) T') → (ok = false → ¬ formsP x.d y.d (Alike x.d y.d) ⟨xf, xe, xs, ⟨xm, xi⟩, xfl⟩ ⟨yf, ye, ys, ⟨ym, yi⟩, yfl⟩) → MeansOut x.d y.d T ⟨0, i + 16⟩ ⟨0, j + 16⟩ ok T') := Lib.hid (fun ok T' g a b => out_new rfl rfl HTX.out HTY.out HG1.out g a b)
      have HBAD : Hid (¬ (xf = yf ∧ xe = ye ∧ xs = ys) → MeansOut x.d y.d T ⟨0, i + 16⟩ ⟨0, j + 16⟩ false ((i, j) :: T)) := Lib.hid (fun hn => HOUT.out false _ (Grew.refl HT1.out) (by intro h; cases h) (fun _ k => hn ⟨k.1, k.2.1, k.2.2.1⟩))
      by_cases hq1 : xf = yf
      rotate_left
      · have q1 : (xf != yf) = true := by rw [bne_iff_ne]; exact hq1
        have HV := Lib.hid (HBAD.out (fun q => hq1 q.1))
        clear hq1
        go_wp2_with (fail)
        go_ret
        exact ⟨false, ((i, j) :: T), rfl, HV.out, HGMr.out, HKR.out⟩
      have q1 : (xf != yf) = false := by rw [bne, hq1, beq_self_eq_true]; rfl
      by_cases hq2 : xe = ye
      rotate_left
      · have q2 : (xe != ye) = true := by rw [bne_iff_ne]; exact hq2
        have HV := Lib.hid (HBAD.out (fun q => hq2 q.2.1))
        clear hq2
        go_wp2_with (fail)
        go_ret
        exact ⟨false, ((i, j) :: T), rfl, HV.out, HGMr.out, HKR.out⟩
      have q2 : (xe != ye) = false := by rw [bne, hq2, beq_self_eq_true]; rfl
      by_cases hq3 : xs = ys
      rotate_left
      · have q3 : (xs != ys) = true := by rw [bne_iff_ne]; exact hq3
        have HV := Lib.hid (HBAD.out (fun q => hq3 q.2.2))
        clear hq3
        go_wp2_with (fail)
        go_ret
        exact ⟨false, ((i, j) :: T), rfl, HV.out, HGMr.out, HKR.out⟩
      have q3 : (xs != ys) = false := by rw [bne, hq3, beq_self_eq_true]; rfl
      have HEQ := Lib.hid (And.intro hq1 (And.intro hq2 hq3))
      clear hq1 hq2 hq3 HBAD
      by_cases h2 : xf = 2
      · have e2 : (xf == 2) = true := by rw [h2]; rfl
        have H2 := Lib.hid h2
        clear h2
        have hfx := HOX.out.2.2.2.2.len
        have hfy := HOY.out.2.2.2.2.len
        dsimp only at hfx hfy
        have HFE : Hid (∀ W, Pr x y w0 W gp Bm ((i, j) :: T) → At W w.heap.size #[.pointer (some ⟨gp, 0, none⟩)] 54 → Calls Try.prog 48 #[.slice xfa xfl.length xfc, .slice yfa yfl.length yfc, .func (.func 49) #[] #[.pointer (some ⟨w.heap.size, 0, none⟩)]] W (EqEndL (xfl.length = yfl.length) xfl.length (FldI x y w0 W gp Bm w.heap.size ((i, j) :: T) xfl yfl) (FldK x y w0 W gp Bm ((i, j) :: T) xfl yfl))) := Lib.hid (fun W hp ha => by
          refine eqFld_walk ⟨xfa, xfc, xfl⟩ ⟨yfa, yfc, yfl⟩ (.pointer (some ⟨w.heap.size, 0, none⟩)) W _ _ ⟨_, hp, Grew.refl HT1.out, fun p hp => .inl hp, fun q f g hq => by omega, Ke.refl _ _, ha⟩ ?_ ?_ ?_ (SMX.out) (SMY.out) ?_
          · rintro k V V' ⟨T', a1, a2, a3, a4, a5, a6⟩ hb
            exact ⟨T', a1.on hb, a2, a3, a4, a5.trans (Ke.below _ hb), a6.bel hb⟩
          · rintro k V ⟨T', a1, _⟩
            exact ⟨HOX.out.2.2.2.2.below a1.bel (Nat.le_refl _), HOY.out.2.2.2.2.below a1.bel (Nat.le_refl _)⟩
          · exact fun hn => ⟨⟨_, hp, Grew.refl HT1.out⟩, fun q => hn q.1, Ke.refl _ _⟩
          · rintro k ⟨fn, fo, ⟨fm, fi⟩⟩ ⟨gn, go, ⟨gm, gi⟩⟩ V hf hg hI
            exact fldclo_walk HIH.out HN1.out HLX.out.2 HLY.out.2 hf hg V hI)
        skip
        have fl15 : True := trivial
        go_wp2_with (first | (have _f := fl15; refine (HFE.out _ HGMr.out HGPr.out).mono ?_; rintro e' w9 (⟨rfl, hln, hi⟩ | ⟨rfl, hi⟩) <;> have HE := Lib.hid hi <;> clear hi; clear _f fl15))
        · obtain ⟨T', a1, a2, a3, a4, a5, a6⟩ := HE.out
          have HV := HOUT.out true T' a2 (fun _ => ⟨⟨HEQ.out.1, HEQ.out.2.1, HEQ.out.2.2, (body_2 H2.out).2 ⟨hln, fun k f g hf hg => a4 k f g (List.getElem?_eq_some_iff.1 hf).1 hf hg⟩⟩, a3⟩) (by intro h; cases h)
          have HA1 := Lib.hid a1
          have HA5 := Lib.hid (HKR.out.trans a5)
          have HVV := Lib.hid HV
          clear a1 a2 a3 a4 a5 a6 HE HV
          go_ret
          exact ⟨true, T', rfl, HVV.out, HA1.out, HA5.out⟩
        · obtain ⟨⟨T', a1, a2⟩, a3, a5⟩ := HE.out
          have HV := HOUT.out false T' a2 (by intro h; cases h) (fun _ k => a3 ((body_2 H2.out).1 k.2.2.2))
          have HA1 := Lib.hid a1
          have HA5 := Lib.hid (HKR.out.trans a5)
          have HVV := Lib.hid HV
          clear a1 a2 a3 a5 HE HV
          go_ret
          exact ⟨false, T', rfl, HVV.out, HA1.out, HA5.out⟩
      have e2 : (xf == 2) = false := by rw [beq_eq_false_iff_ne]; exact h2
      have H2 := Lib.hid h2
      clear h2
      have fl16 : True := trivial
      have fl17 : True := trivial
      have fl18 : True := trivial
      have H2Y : Hid (yf ≠ 2) := Lib.hid (by rw [← HEQ.out.1]; exact H2.out)
      have gp0 := (HGPr.out.cell 0).trans (show _ = some (.pointer (some ⟨gp, 0, none⟩)) from rfl)
      go_wp2_with (first | (have _f := fl16; refine wpList_load_mid rfl 34 (.tmp 130) rfl gx 3 rfl [.int .i64 xm, .int .i64 xi] _ (fun q y hy => (HGX.out.cell (3 + q)).trans (by match q, hy with | 0, hy => exact hy | 1, hy => exact hy)) Try.underlying34 rfl (by kernel_rfl) ?_; clear _f fl16) | (have _f := fl17; refine wpList_load_mid rfl 34 (.tmp 132) rfl gy 3 rfl [.int .i64 ym, .int .i64 yi] _ (fun q y hy => (HGY.out.cell (3 + q)).trans (by match q, hy with | 0, hy => exact hy | 1, hy => exact hy)) Try.underlying34 rfl (by kernel_rfl) ?_; clear _f fl17) | (have _f := fl18; refine (HIH.out ((i, j) :: T) xm xi ym yi _ HT1.out HN1.out (HLX.out.1 H2.out) (HLY.out.1 H2Y.out) HGMr.out).mono ?_; rintro e' w9 ⟨ok, T2, rfl, hm, hp, hk⟩; have HM := Lib.hid hm; have HP2 := Lib.hid hp; have HK2 := Lib.hid (HKR.out.trans hk); clear hm hp hk; clear _f fl18))
      have HVV : Hid (MeansOut x.d y.d T ⟨0, i + 16⟩ ⟨0, j + 16⟩ ok T2) := Lib.hid (HOUT.out ok T2 HM.out.1 (fun h => ⟨⟨HEQ.out.1, HEQ.out.2.1, HEQ.out.2.2, (body_not2 H2.out).2 (HM.out.2.1 h).1⟩, (HM.out.2.1 h).2⟩) (fun h k => HM.out.2.2 h ((body_not2 H2.out).1 k.2.2.2)))
      go_ret
      exact ⟨ok, T2, rfl, HVV.out, HP2.out, HK2.out⟩
end Go.Proofs.Ytgcjdkgeiopllaa
