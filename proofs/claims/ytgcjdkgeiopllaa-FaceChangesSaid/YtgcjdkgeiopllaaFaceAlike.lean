/- face's means, whole; alike. Printed by bin/gen_facealike.py. -/
import Derived.Test.YtgcjdkgeiopllaaFaceMeans
import Derived.Test.YtgcjdkgeiopllaaFaceFind
namespace Go.Proofs.Ytgcjdkgeiopllaa
set_option linter.unusedVariables false
set_option linter.unusedSimpArgs false
open Go.RowKit

theorem means_all (x y : Fc) (w0 : World) (gp Bm : Nat) (hx : x.Rd w0) (hy : y.Rd w0) (mx : mayFace x.d = true) (my : mayFace y.d = true) : ∀ N, MeansC x y w0 gp Bm N
  | 0 => fun T rm ri sm si w hT hN _ _ _ => absurd hN (by have := pairs_le hT; omega)
  | N + 1 => means_step x y w0 gp Bm N hx hy mx my (means_all x y w0 gp Bm hx hy mx my N)

def SameT (a b : FD) (T : Nat → Nat → Prop) (o q : ODD) : Prop :=
  o.cls = q.cls ∧ o.value = q.value ∧ onceP a b T o.base q.base ∧ o.params.length = q.params.length ∧ ∀ (k : Nat) (p p' : Prm), o.params[k]? = some p → q.params[k]? = some p' → p.var = p'.var ∧ onceP a b T p.base p'.base
theorem sameT_mono {a b : FD} {T U : Nat → Nat → Prop} (h : ∀ i j, T i j → U i j) {o q : ODD} (k : SameT a b T o q) : SameT a b U o q :=
  ⟨k.1, k.2.1, once_mono h k.2.2.1, k.2.2.2.1, fun i p p' hp hp' => ⟨(k.2.2.2.2 i p p' hp hp').1, once_mono h (k.2.2.2.2 i p p' hp hp').2⟩⟩
def ParamsAlike (a b : FD) (fl gl : List Prm) : Prop := fl.length = gl.length ∧ ∀ (k : Nat) (f g : Prm), fl[k]? = some f → gl[k]? = some g → f.var = g.var ∧ onceP a b (Alike a b) f.base g.base
def PrmI (x y : Fc) (w0 wc : World) (gp Bm gq : Nat) (T1 : List (Nat × Nat)) (fl gl : List Prm) (k : Nat) (W : World) : Prop :=
  ∃ T', Pr x y w0 W gp Bm T' ∧ Grew x.d y.d T1 T' ∧ Holds x.d y.d T1 T' ∧ (∀ (q : Nat) (f g : Prm), q < k → fl[q]? = some f → gl[q]? = some g → f.var = g.var ∧ onceP x.d y.d (inT T') f.base g.base) ∧ Ke (· = Bm) wc W ∧ At W gq #[.pointer (some ⟨gp, 0, none⟩)] 54
def PrmK (x y : Fc) (w0 wc : World) (gp Bm : Nat) (T1 : List (Nat × Nat)) (fl gl : List Prm) (W : World) : Prop :=
  (∃ T', Pr x y w0 W gp Bm T' ∧ Grew x.d y.d T1 T') ∧ ¬ ParamsAlike x.d y.d fl gl ∧ Ke (· = Bm) wc W
theorem rows_keM {w w' : World} {Bm : Nat} {s : Sl Prm} (h : Rows prmD w s) (k : Ke (· = Bm) w w') {es : Array MapEntry} {c : Nat} (hm : w.heap[Bm]? = some (.map es c)) : Rows prmD w' s := by
  refine ⟨?_, h.all⟩
  obtain ⟨⟨b, o, h1, h2⟩, h3, h4, h5⟩ := h.row
  refine ⟨⟨b, o, fun h0 => ⟨(h1 h0).1, Nat.lt_of_lt_of_le (h1 h0).2 k.size⟩, fun j u hj => ?_⟩, h3, h4, h5⟩
  have hl : 0 < (s.l.flatMap prmD.cells).length := Nat.lt_of_le_of_lt (Nat.zero_le _) (List.getElem?_eq_some_iff.1 hj).1
  obtain ⟨e1, e2⟩ := h1 hl
  have := h2 j u hj
  have hne : b ≠ Bm := by
    rintro rfl
    unfold World.cell? at this
    simp only [hm] at this
    cases this
  unfold World.cell? at this ⊢
  rw [k.block b e2 hne]; exact this
theorem Pr.isMap {x y : Fc} {w0 w : World} {gp Bm : Nat} {T : List (Nat × Nat)} (h : Pr x y w0 w gp Bm T) : ∃ es c, w.heap[Bm]? = some (.map es c) := by
  obtain ⟨D, ⟨es, c, hb, _⟩, _⟩ := h.map
  exact ⟨es, c, hb⟩

set_option maxRecDepth 100000 in
set_option maxHeartbeats 4000000 in
theorem prmclo_walk {x y : Fc} {w0 wc : World} {gp Bm N gq k : Nat} {T1 : List (Nat × Nat)} {fl gl : List Prm} (ih : MeansC x y w0 gp Bm N) (hfu : x.d.types.length * y.d.types.length < T1.length + N)
    (hlx : ∀ f ∈ fl, Leads x.d f.base) (hly : ∀ f ∈ gl, Leads y.d f.base) {fv gv : Bool} {fm fi gm gi : Int} (hf : fl[k]? = some ⟨fv, ⟨fm, fi⟩⟩) (hg : gl[k]? = some ⟨gv, ⟨gm, gi⟩⟩) (W : World) (hI : PrmI x y w0 wc gp Bm gq T1 fl gl k W) :
    Calls Try.prog 43 #[.agg #[.bool fv, .int .i64 fm, .int .i64 fi], .agg #[.bool gv, .int .i64 gm, .int .i64 gi], .pointer (some ⟨gq, 0, none⟩)] W (EqEnd (k + 1) (PrmI x y w0 wc gp Bm gq T1 fl gl) (PrmK x y w0 wc gp Bm T1 fl gl)) := by
  obtain ⟨T', hP, hG, hH, hF, hK, hA⟩ := hI
  have HIH := Lib.hid (ih T' fm fi gm gi)
  have HF0 := Lib.hid hF
  have HH := Lib.hid hH
  have HG := Lib.hid hG
  have HFG := Lib.hid (And.intro hf hg)
  have HLX := Lib.hid (hlx _ (List.mem_of_getElem? hf))
  have HLY := Lib.hid (hly _ (List.mem_of_getElem? hg))
  have HFU : Hid (x.d.types.length * y.d.types.length < T'.length + N) := Lib.hid (by have := hG.le; omega)
  have HNE : Hid (gq ≠ Bm) := Lib.hid (hP.nm hA)
  have HKC := Lib.hid hK
  have bF := bel2 W (.cells #[.bool fv, .int .i64 fm, .int .i64 fi] 66) (.cells #[.bool gv, .int .i64 gm, .int .i64 gi] 66)
  have HP0 := Lib.hid (hP.on bF)
  have HA0 := Lib.hid (hA.bel bF)
  have HB0 := Lib.hid bF
  have HKN : Hid (¬ (fv = gv) → PrmK x y w0 wc gp Bm T1 fl gl ((W.alloc (.cells #[.bool fv, .int .i64 fm, .int .i64 fi] 66)).alloc (.cells #[.bool gv, .int .i64 gm, .int .i64 gi] 66))) := Lib.hid (fun hn => ⟨⟨T', HP0.out, HG.out⟩, fun q => hn (q.2 k _ _ HFG.out.1 HFG.out.2).1, HKC.out.trans (Ke.below _ HB0.out)⟩)
  have gq0 := (HA0.out.cell 0).trans (show _ = some (.pointer (some ⟨gp, 0, none⟩)) from rfl)
  clear ih hP hG hH hF hK hA hf hg hlx hly hfu bF
  by_cases hn : fv = gv
  rotate_left
  · have hq : (fv == gv) = false := by rw [beq_eq_false_iff_ne]; exact hn
    have HE := Lib.hid (HKN.out hn)
    clear hn
    go_enter Try.func43, Try.ntmps43
    go_wp2_with (fail)
    go_ret
    exact .inr ⟨rfl, HE.out⟩
  have HNO := Lib.hid hn
  have hq : (fv == gv) = true := by rw [hn, beq_self_eq_true]
  clear hn HKN
  go_enter Try.func43, Try.ntmps43
  have fl1 : True := trivial
  go_wp2_with (first | (have _f := fl1; refine (HIH.out _ HG.out.tk HFU.out HLX.out HLY.out HP0.out).mono ?_; rintro e w1 ⟨ok, T2, rfl, hm, hp, hk⟩; have HM := Lib.hid hm; have HP2 := Lib.hid hp; have HK2 := Lib.hid hk; clear hm hp hk; clear _f fl1))
  go_ret
  cases ok
  · refine .inr ⟨rfl, ⟨T2, HP2.out, HG.out.trans HM.out.1⟩, fun q => HM.out.2.2 rfl (q.2 k _ _ HFG.out.1 HFG.out.2).2, (HKC.out.trans (Ke.below _ HB0.out)).trans HK2.out⟩
  · obtain ⟨h1, h2⟩ := HM.out.2.1 rfl
    refine .inl ⟨rfl, T2, HP2.out, HG.out.trans HM.out.1, HH.out.trans HM.out.1 h2, fun q f g hq hf hg => ?_, (HKC.out.trans (Ke.below _ HB0.out)).trans HK2.out, HA0.out.ke HK2.out HNE.out⟩
    rcases Nat.lt_or_ge q k with h | h
    · obtain ⟨a1, a3⟩ := HF0.out q f g h hf hg
      exact ⟨a1, once_mono (inT_mono HM.out.1) a3⟩
    · obtain rfl : q = k := by omega
      rw [HFG.out.1] at hf; rw [HFG.out.2] at hg
      cases hf; cases hg
      exact ⟨HNO.out, h1⟩

def AEnd (x y : Fc) (w0 : World) (gp Bm : Nat) (T : List (Nat × Nat)) (o q : ODD) (w : World) (e : Ending) (w' : World) : Prop :=
  ∃ (ok : Bool) (T' : List (Nat × Nat)), e = .returned (.bool ok) ∧ Grew x.d y.d T T' ∧ (ok = true → SameT x.d y.d (inT T') o q ∧ Holds x.d y.d T T') ∧ (ok = false → ¬ sameO x.d y.d o q) ∧ Pr x y w0 w' gp Bm T' ∧ Ke (· = Bm) w w'

set_option maxRecDepth 100000 in
set_option maxHeartbeats 8000000 in
theorem alike_walk {x y : Fc} {w0 : World} {gp Bm N : Nat} (ih : MeansC x y w0 gp Bm N) {T : List (Nat × Nat)} (hT : Tk x.d y.d T) (hN : x.d.types.length * y.d.types.length < T.length + N) {o q : FO} (ho : Leads x.d o.base) (hop : ∀ p ∈ o.params.l, Leads x.d p.base) (hq : Leads y.d q.base) (hqp : ∀ p ∈ q.params.l, Leads y.d p.base)
    (w : World) (hP : Pr x y w0 w gp Bm T) (ro : Rows prmD w o.params) (rq : Rows prmD w q.params) (lo : o.params.l.length ≤ 1000000) (lq : q.params.l.length ≤ 1000000) :
    Calls Try.prog 21 #[.pointer (some ⟨gp, 0, none⟩), .agg (foD.cells o).toArray, .agg (foD.cells q).toArray] w (AEnd x y w0 gp Bm T o.d q.d w) := by
  obtain ⟨cl, on, ⟨bm, bi⟩, va, ⟨pa, pc, pl⟩⟩ := o
  obtain ⟨dl, qn, ⟨em, ei⟩, ua, ⟨ra, rc, rl⟩⟩ := q
  dsimp only at ho hop hq hqp lo lq
  show Calls _ _ #[.pointer (some ⟨gp, 0, none⟩), .agg #[.int .i64 cl, .string on, .int .i64 bm, .int .i64 bi, .int .u32 va, .slice pa pl.length pc], .agg #[.int .i64 dl, .string qn, .int .i64 em, .int .i64 ei, .int .u32 ua, .slice ra rl.length rc]] w (AEnd x y w0 gp Bm T ⟨cl, on, ⟨bm, bi⟩, va, pl⟩ ⟨dl, qn, ⟨em, ei⟩, ua, rl⟩ w)
  have HIH : Hid (MeansC x y w0 gp Bm N) := Lib.hid ih
  have HT := Lib.hid hT
  have HN := Lib.hid hN
  have HO := Lib.hid ho
  have HOP := Lib.hid hop
  have HQ := Lib.hid hq
  have HQP := Lib.hid hqp
  have HRO := Lib.hid ro
  have HRQ := Lib.hid rq
  have HLO := Lib.hid lo
  have HLQ := Lib.hid lq
  have HMP := Lib.hid hP.isMap
  have hfx := ro.len
  have hfy := rq.len
  dsimp only at hfx hfy
  have HB0 := Lib.hid (bel3 w (.cells #[.pointer (some ⟨gp, 0, none⟩)] 54) (.cells #[.int .i64 cl, .string on, .int .i64 bm, .int .i64 bi, .int .u32 va, .slice pa pl.length pc] 37) (.cells #[.int .i64 dl, .string qn, .int .i64 em, .int .i64 ei, .int .u32 ua, .slice ra rl.length rc] 37))
  have hSP := (Sep.nil w).alloc3 #[.pointer (some ⟨gp, 0, none⟩)] #[.int .i64 cl, .string on, .int .i64 bm, .int .i64 bi, .int .u32 va, .slice pa pl.length pc] #[.int .i64 dl, .string qn, .int .i64 em, .int .i64 ei, .int .u32 ua, .slice ra rl.length rc] 54 37 37
  have HGP := Lib.hid (hSP.at 2 rfl)
  have HGO := Lib.hid (hSP.at 1 rfl)
  have HGQ := Lib.hid (hSP.at 0 rfl)
  have HGM := Lib.hid (hP.on HB0.out)
  clear hSP ih hT hN ho hop hq hqp ro rq lo lq hP
  have HBAD : Hid (¬ (cl = dl ∧ va = ua) → ∀ W, Pr x y w0 W gp Bm T → Ke (· = Bm) w W → AEnd x y w0 gp Bm T ⟨cl, on, ⟨bm, bi⟩, va, pl⟩ ⟨dl, qn, ⟨em, ei⟩, ua, rl⟩ w (.returned (.bool false)) W) := Lib.hid (fun hn W p k => ⟨false, T, rfl, Grew.refl HT.out, fun h => (by cases h), fun _ s => hn ⟨s.1, s.2.1⟩, p, k⟩)
  by_cases h1 : cl = dl
  rotate_left
  · have q1 : (cl == dl) = false := by rw [beq_eq_false_iff_ne]; exact h1
    have HE := Lib.hid (HBAD.out (fun q => h1 q.1))
    clear h1
    go_enter Try.func21, Try.ntmps21
    go_wp2_with (fail)
    go_ret
    exact HE.out _ HGM.out (Ke.below _ HB0.out)
  by_cases h2 : va = ua
  rotate_left
  · have q1 : (cl == dl) = true := by rw [h1, beq_self_eq_true]
    have q2 : (va == ua) = false := by rw [beq_eq_false_iff_ne]; exact h2
    have HE := Lib.hid (HBAD.out (fun q => h2 q.2))
    clear h1 h2
    go_enter Try.func21, Try.ntmps21
    go_wp2_with (fail)
    go_ret
    exact HE.out _ HGM.out (Ke.below _ HB0.out)
  have q1 : (cl == dl) = true := by rw [h1, beq_self_eq_true]
  have q2 : (va == ua) = true := by rw [h2, beq_self_eq_true]
  have HEQ := Lib.hid (And.intro h1 h2)
  clear h1 h2 HBAD
  go_enter Try.func21, Try.ntmps21
  have fl2 : True := trivial
  have fl3 : True := trivial
  go_wp2_with (first | (have _f := fl2; refine (HIH.out T bm bi em ei _ HT.out HN.out HO.out HQ.out HGM.out).mono ?_; rintro e w1 ⟨ok, T2, rfl, hm, hp, hk⟩; have HM := Lib.hid hm; have HP2 := Lib.hid hp; have HK2 := Lib.hid ((Ke.below _ HB0.out).trans hk); have HGP2 := Lib.hid (HGP.out.ke hk (HGM.out.nm HGP.out)); have y5 := ((HGO.out.ke hk (HGM.out.nm HGO.out)).cell 5).trans (show _ = some (.slice pa pl.length pc) from rfl); have z5 := ((HGQ.out.ke hk (HGM.out.nm HGQ.out)).cell 5).trans (show _ = some (.slice ra rl.length rc) from rfl); clear hm hp hk; have HRR : Hid (∀ V, Ke (· = Bm) w1 V → Rows prmD V ⟨pa, pc, pl⟩ ∧ Rows prmD V ⟨ra, rc, rl⟩) := Lib.hid (fun V k => by obtain ⟨es, c, hmp⟩ := HMP.out; exact ⟨rows_keM HRO.out (HK2.out.trans k) hmp, rows_keM HRQ.out (HK2.out.trans k) hmp⟩); have HCLO : Hid (∀ (k : Nat) (f g : Prm) (V : World), pl[k]? = some f → rl[k]? = some g → PrmI x y w0 w1 gp Bm w.heap.size T2 pl rl k V → Calls Try.prog 43 #[.agg (prmD.cells f).toArray, .agg (prmD.cells g).toArray, .pointer (some ⟨w.heap.size, 0, none⟩)] V (EqEnd (k + 1) (PrmI x y w0 w1 gp Bm w.heap.size T2 pl rl) (PrmK x y w0 w1 gp Bm T2 pl rl))) := Lib.hid (fun k f g V hf hg hI => by obtain ⟨fv, ⟨fm, fi⟩⟩ := f; obtain ⟨gv, ⟨gm, gi⟩⟩ := g; exact prmclo_walk HIH.out (by have := HM.out.1.le; have := HN.out; omega) HOP.out HQP.out hf hg V hI); cases ok; clear _f fl2) | (have _f := fl3; refine (eqPrm_walk ⟨pa, pc, pl⟩ ⟨ra, rc, rl⟩ (.pointer (some ⟨w.heap.size, 0, none⟩)) w1 (PrmI x y w0 w1 gp Bm w.heap.size T2 pl rl) (PrmK x y w0 w1 gp Bm T2 pl rl) ⟨T2, HP2.out, Grew.refl HM.out.1.tk, fun p hp => .inl hp, fun q f g hq => (by omega), Ke.refl _ _, HGP2.out⟩ (fun k V V' ⟨T', a1, a2, a3, a4, a5, a6⟩ hb => ⟨T', a1.on hb, a2, a3, a4, a5.trans (Ke.below _ hb), a6.bel hb⟩) (fun k V ⟨T', _, _, _, _, a5, _⟩ => HRR.out V a5) (fun hn => ⟨⟨T2, HP2.out, Grew.refl HM.out.1.tk⟩, fun q => hn q.1, Ke.refl _ _⟩) HLO.out HLQ.out (fun k f g V hf hg hI => HCLO.out k f g V hf hg hI)).mono ?_; rintro e w3 (⟨rfl, hln, hi⟩ | ⟨rfl, hi⟩) <;> have HE := Lib.hid hi <;> clear hi; clear _f fl3))
  · go_ret
    exact ⟨false, T2, rfl, HM.out.1, fun h => (by cases h), fun _ s => HM.out.2.2 rfl s.2.2.1, HP2.out, HK2.out⟩
  · have HH : Hid (AEnd x y w0 gp Bm T ⟨cl, on, ⟨bm, bi⟩, va, pl⟩ ⟨dl, qn, ⟨em, ei⟩, ua, rl⟩ w (.returned (.bool true)) w3) := Lib.hid (by
      obtain ⟨T', a1, a2, a3, a4, a5, a6⟩ := HE.out
      obtain ⟨b1, b2⟩ := HM.out.2.1 rfl
      exact ⟨true, T', rfl, HM.out.1.trans a2, fun _ => ⟨⟨HEQ.out.1, HEQ.out.2, once_mono (inT_mono a2) b1, hln, fun k p p' hp hp' => a4 k p p' (List.getElem?_eq_some_iff.1 hp).1 hp hp'⟩, b2.trans a2 a3⟩, fun h => (by cases h), a1, HK2.out.trans a5⟩)
    clear hln HE
    go_ret
    exact HH.out
  · have HH : Hid (AEnd x y w0 gp Bm T ⟨cl, on, ⟨bm, bi⟩, va, pl⟩ ⟨dl, qn, ⟨em, ei⟩, ua, rl⟩ w (.returned (.bool false)) w3) := Lib.hid (by
      obtain ⟨⟨T', a1, a2⟩, a3, a5⟩ := HE.out
      exact ⟨false, T', rfl, HM.out.1.trans a2, fun h => (by cases h), fun _ s => a3 ⟨s.2.2.2.1, s.2.2.2.2⟩, a1, HK2.out.trans a5⟩)
    clear HE
    go_ret
    exact HH.out
end Go.Proofs.Ytgcjdkgeiopllaa
