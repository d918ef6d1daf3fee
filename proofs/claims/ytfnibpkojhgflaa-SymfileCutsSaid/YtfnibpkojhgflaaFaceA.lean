/- Several texts in one: FaceData, FaceRef, FaceClosed, FacePlain, FaceHas, FaceMuch. -/
import Derived.Test.YtfnibpkojhgflaaObjA
import Derived.Test.YtfnibpkojhgflaaLibA
import Derived.BigQuiet
import Derived.IntWalk
namespace Go.Proofs.Ytfnibpkojhgflaa

section
set_option linter.unusedVariables false
set_option linter.unusedSimpArgs false
open Go.RowKit

structure Rf where
  mod : Int
  idx : Int
def Rf.ok (r : Rf) : Prop := i64In r.mod ∧ i64In r.idx
def Rf.val (r : Rf) : Value := .agg #[.int .i64 r.mod, .int .i64 r.idx]

structure Fld where
  name : ByteArray
  off : Int
  base : Rf
def Fld.cells (x : Fld) : List Value := [.string x.name, .int .i64 x.off, .int .i64 x.base.mod, .int .i64 x.base.idx]
def fldD : Dat Fld := ⟨4, Fld.cells, fun _ x => x.name.size ≤ maxLen ∧ i64In x.off ∧ x.base.ok, by decide, fun _ => rfl, fun h _ _ => h⟩

structure FT where
  form : Int
  len : Int
  size : Int
  base : Rf
  fields : Sl Fld
def FT.cells (x : FT) : List Value := [.int .i64 x.form, .int .i64 x.len, .int .i64 x.size, .int .i64 x.base.mod, .int .i64 x.base.idx, x.fields.val]
def ftD : Dat FT := ⟨6, FT.cells, fun w x => i64In x.form ∧ i64In x.len ∧ i64In x.size ∧ x.base.ok ∧ Rows fldD w x.fields, by decide, fun _ => rfl, fun h b hB => ⟨h.1, h.2.1, h.2.2.1, h.2.2.2.1, h.2.2.2.2.below b hB⟩⟩

structure Prm where
  var : Bool
  base : Rf
def Prm.cells (x : Prm) : List Value := [.bool x.var, .int .i64 x.base.mod, .int .i64 x.base.idx]
def prmD : Dat Prm := ⟨3, Prm.cells, fun _ x => x.base.ok, by decide, fun _ => rfl, fun h _ _ => h⟩

structure FO where
  cls : Int
  name : ByteArray
  base : Rf
  value : Int
  params : Sl Prm
def FO.cells (x : FO) : List Value := [.int .i64 x.cls, .string x.name, .int .i64 x.base.mod, .int .i64 x.base.idx, .int .u32 x.value, x.params.val]
def foD : Dat FO := ⟨6, FO.cells, fun w x => i64In x.cls ∧ x.name.size ≤ maxLen ∧ x.base.ok ∧ (0 ≤ x.value ∧ x.value < 4294967296) ∧ Rows prmD w x.params, by decide, fun _ => rfl, fun h b hB => ⟨h.1, h.2.1, h.2.2.1, h.2.2.2.1, h.2.2.2.2.below b hB⟩⟩

structure Fc where
  name : ByteArray
  imps : Sl Imp
  types : Sl FT
  objs : Sl FO
def Fc.cells (f : Fc) : Array Value := #[.string f.name, f.imps.val, f.types.val, f.objs.val]
def Fc.val (f : Fc) : Value := .agg f.cells
structure Fc.Rd (w : World) (f : Fc) : Prop where
  name : f.name.size ≤ maxLen
  imps : Rows impD w f.imps
  types : Rows ftD w f.types
  objs : Rows foD w f.objs
theorem Fc.Rd.below {w w' : World} {f : Fc} {B : Nat} (h : f.Rd w) (hb : Below B w w') (hB : w.heap.size ≤ B) : f.Rd w' :=
  ⟨h.name, h.imps.below hb hB, h.types.below hb hB, h.objs.below hb hB⟩
theorem Fc.Rd.bel {w w' : World} {f : Fc} (h : f.Rd w) (hb : Below w.heap.size w w') : f.Rd w' := h.below hb (Nat.le_refl _)

/-! ### plainly: what a face is, wherever it lies -/
structure TD where
  form : Int
  len : Int
  size : Int
  base : Rf
  fields : List Fld
structure ODD where
  cls : Int
  name : ByteArray
  base : Rf
  value : Int
  params : List Prm
structure FD where
  name : ByteArray
  imps : List Imp
  types : List TD
  objs : List ODD
def FT.d (x : FT) : TD := ⟨x.form, x.len, x.size, x.base, x.fields.l⟩
def FO.d (x : FO) : ODD := ⟨x.cls, x.name, x.base, x.value, x.params.l⟩
def Fc.d (f : Fc) : FD := ⟨f.name, f.imps.l, f.types.l.map FT.d, f.objs.l.map FO.d⟩

/-- what references are held against: how many imports there are; the types' forms. -/
structure Env where
  ni : Nat
  forms : List Int
def FD.env (f : FD) : Env := ⟨f.imps.length, f.types.map TD.form⟩

def refP (e : Env) (r : Rf) : Prop := (r.mod = 0 ∧ (1 ≤ r.idx ∧ r.idx ≤ 6 ∨ 16 ≤ r.idx ∧ r.idx < 16 + e.forms.length ∧ r.idx ≤ 255)) ∨ (1 ≤ r.mod ∧ r.mod ≤ e.ni ∧ 16 ≤ r.idx ∧ r.idx ≤ 255)
instance (e : Env) (r : Rf) : Decidable (refP e r) := by unfold refP; infer_instance
def refB (e : Env) (r : Rf) : Bool := decide (refP e r)
def opened (e : Env) (r : Rf) : Bool := decide (r.mod = 0 ∧ 16 ≤ r.idx) && (e.forms[(r.idx - 16).toNat]? == some 4)
def closedB (e : Env) (r : Rf) : Bool := refB e r && !opened e r

/-- fields that may be, behind names that were seen. -/
def fieldOk (e : Env) (x : Fld) : Bool := mayName x.name && decide (0 ≤ x.off ∧ x.off ≤ 262144) && closedB e x.base
def fieldsOk (e : Env) : List ByteArray → List Fld → Bool
  | _, [] => true
  | seen, x :: r => fieldOk e x && !seen.any (fun s => decide (s = x.name)) && fieldsOk e (seen ++ [x.name]) r
def sizeIn (n : Int) : Bool := decide (1 ≤ n ∧ n ≤ 262144)
def noRef (r : Rf) : Bool := decide (r.mod = 0 ∧ r.idx = 0)
def mayTypeB (e : Env) (t : TD) : Bool :=
  if t.form = 2 then fieldsOk e [] t.fields && (decide (t.len = 0) && noRef t.base && sizeIn t.size && decide (t.fields.length ≤ 100))
  else if t.form = 1 then decide (1 ≤ t.len ∧ t.len ≤ 65535) && sizeIn t.size && decide (t.fields.length = 0) && closedB e t.base
  else if t.form = 3 ∨ t.form = 4 then decide (t.len = 0 ∧ t.size = 0 ∧ t.fields.length = 0) && closedB e t.base
  else false
def constOk (o : ODD) : Bool := decide (o.base.mod = 0 ∧ (o.base.idx = 1 ∨ o.base.idx = 5 ∨ o.base.idx = 2 ∧ o.value ≤ 1 ∨ o.base.idx = 3 ∧ o.value ≤ 255))
def mayObjB (e : Env) (o : ODD) : Bool :=
  mayName o.name && (if o.cls = 4 then decide (1 ≤ o.value ∧ o.value ≤ 200 ∧ o.params.length ≤ 12) && o.params.all (fun p => refB e p.base) && (noRef o.base || closedB e o.base)
    else decide (o.params.length = 0) && (if o.cls = 1 then constOk o else if o.cls = 3 then decide (o.value ≤ 262144) && closedB e o.base else if o.cls = 2 then decide (o.value = 0) && closedB e o.base else false))
/-- two objects that do not stand beside each other. -/
def clash (x y : ODD) : Bool := decide (x.name = y.name ∨ x.cls = 4 ∧ y.cls = 4 ∧ x.value = y.value)
def objsOk (e : Env) : List ODD → List ODD → Bool
  | _, [] => true
  | seen, x :: r => mayObjB e x && !seen.any (fun s => clash s x) && objsOk e (seen ++ [x]) r
def mayFace (f : FD) : Bool := mayImps f.name f.imps && decide (f.types.length ≤ 200 ∧ f.objs.length ≤ 900) && f.types.all (mayTypeB f.env) && objsOk f.env [] f.objs
def muchF (f : FD) : Bool := decide (40 < f.imps.length ∨ 300 < f.types.length ∨ 1000 < f.objs.length) || f.types.any (fun t => decide (120 < t.fields.length)) || f.objs.any (fun o => decide (40 < o.params.length))
end

section
set_option linter.unusedVariables false
set_option linter.unusedSimpArgs false
open Go.RowKit

theorem ref_yes {e : Env} {r : Rf} (h : refP e r) : refB e r = true := decide_eq_true h
theorem ref_no {e : Env} {r : Rf} (h : ¬ refP e r) : refB e r = false := decide_eq_false h

set_option maxHeartbeats 2000000 in
theorem ref_walk (nm : ByteArray) (a1 a2 a3 : Option Addr) (n1 n2 n3 c1 c2 c3 : Nat) (m i : Int) (w : World) (e : Env) (h1 : e.ni = n1) (h2 : e.forms.length = n2) (hn1 : n1 ≤ 9223372036854775807) (hn2 : n2 ≤ 9223372036854775807) (hr : Rf.ok ⟨m, i⟩) :
    Calls Try.prog 61 #[.agg #[.string nm, .slice a1 n1 c1, .slice a2 n2 c2, .slice a3 n3 c3], .agg #[.int .i64 m, .int .i64 i]] w fun e' w' => e' = .returned (.bool (refB e ⟨m, i⟩)) ∧ Below w.heap.size w w' := by
  obtain ⟨⟨m1, m2⟩, i1, i2⟩ := hr
  dsimp only at m1 m2 i1 i2
  have HQ : Hid (refB e ⟨m, i⟩ = decide ((m = 0 ∧ (1 ≤ i ∧ i ≤ 6 ∨ 16 ≤ i ∧ i < 16 + (n2 : Int) ∧ i ≤ 255)) ∨ (1 ≤ m ∧ m ≤ (n1 : Int) ∧ 16 ≤ i ∧ i ≤ 255))) := Lib.hid (decide_eq_decide.2 (by unfold refP; rw [h1, h2]))
  clear h1 h2
  go_enter Try.func61, Try.ntmps61
  go_wp2
  all_goals (go_ret; refine ⟨ret_bool ?_, bel2 _ _ _⟩; rw [HQ.out]; clear HQ; (first | refine decide_eq_decide.2 ?_ | refine (decide_eq_false ?_).symm | refine (decide_eq_true ?_).symm); (try simp at *); omega)

set_option maxHeartbeats 2000000 in
theorem mayRef_walk (nm : ByteArray) (a1 a2 a3 : Option Addr) (n1 n2 n3 c1 c2 c3 : Nat) (m i : Int) (w : World) (e : Env) (h1 : e.ni = n1) (h2 : e.forms.length = n2) (hn1 : n1 ≤ 9223372036854775807) (hn2 : n2 ≤ 100000000000) (hr : Rf.ok ⟨m, i⟩) :
    Calls Try.prog 66 #[.agg #[.string nm, .slice a1 n1 c1, .slice a2 n2 c2, .slice a3 n3 c3], .agg #[.int .i64 m, .int .i64 i]] w fun e' w' => e' = .returned (.bool (refB e ⟨m, i⟩)) ∧ Below w.heap.size w w' := by
  obtain ⟨⟨m1, m2⟩, i1, i2⟩ := hr
  dsimp only at m1 m2 i1 i2
  have HQ : Hid (refB e ⟨m, i⟩ = decide ((m = 0 ∧ (1 ≤ i ∧ i ≤ 6 ∨ 16 ≤ i ∧ i < 16 + (n2 : Int) ∧ i ≤ 255)) ∨ (1 ≤ m ∧ m ≤ (n1 : Int) ∧ 16 ≤ i ∧ i ≤ 255))) := Lib.hid (decide_eq_decide.2 (by unfold refP; rw [h1, h2]))
  clear h1 h2
  go_enter Try.func66, Try.ntmps66
  go_wp2
  all_goals (go_ret; refine ⟨ret_bool ?_, bel2 _ _ _⟩; rw [HQ.out]; clear HQ; (try simp only [← Bool.decide_and, ← Bool.decide_or]); (first | refine decide_eq_decide.2 ?_ | refine (decide_eq_false ?_).symm | refine (decide_eq_true ?_).symm); (try simp at *); omega)
end

section
set_option linter.unusedVariables false
set_option linter.unusedSimpArgs false
open Go.RowKit

theorem env_ni (f : Fc) : f.d.env.ni = f.imps.l.length := rfl
theorem env_len (f : Fc) : f.d.env.forms.length = f.types.l.length := by show (((f.types.l.map FT.d).map TD.form)).length = _; rw [List.length_map, List.length_map]
theorem env_get (f : Fc) {j : Nat} {x : FT} (h : f.types.l[j]? = some x) : f.d.env.forms[j]? = some x.form := by
  show ((f.types.l.map FT.d).map TD.form)[j]? = _
  rw [List.getElem?_map, List.getElem?_map, h]; rfl
theorem closed_no {e : Env} {r : Rf} (h : refB e r = false) : closedB e r = false := by unfold closedB; rw [h]; rfl
theorem closed_far {e : Env} {r : Rf} (h : refB e r = true) (h2 : ¬ (r.mod = 0 ∧ 16 ≤ r.idx)) : closedB e r = true := by unfold closedB opened; rw [h, decide_eq_false h2]; rfl
theorem closed_own {e : Env} {j : Nat} {x : Int} (h : refB e ⟨0, j + 16⟩ = true) (hx : e.forms[j]? = some x) : closedB e ⟨0, j + 16⟩ = (x != 4) := by
  unfold closedB opened
  rw [h, decide_eq_true (by constructor; rfl; show (16 : Int) ≤ j + 16; omega)]
  show (true && !(true && (e.forms[((j : Int) + 16 - 16).toNat]? == some 4))) = _
  rw [show ((j : Int) + 16 - 16).toNat = j by omega, hx]
  show (true && !(true && (some x == some 4))) = _
  simp [bne]
theorem rows_form {w : World} {l2 : List FT} {b o : Nat} (h : RowAt ftD w b o l2) {j : Nat} {x : FT} (hx : l2[j]? = some x) : w.cell? ⟨b, o + j * 6, none⟩ = some (.int .i64 x.form) := h j x hx 0 _ rfl

set_option maxRecDepth 100000 in
set_option maxHeartbeats 4000000 in
theorem closed_walk (f : Fc) (r : Rf) (w : World) (h : f.Rd w) (hr : r.ok) (hn2 : f.types.l.length ≤ 100000000000) :
    Calls Try.prog 55 #[f.val, r.val] w fun e' w' => e' = .returned (.bool (closedB f.d.env r)) ∧ Below w.heap.size w w' := by
  have i1 := h.imps.len
  obtain ⟨b, o, hat, hcell⟩ := h.types.at'
  have HRF : Hid (∀ W : World, Calls Try.prog 61 #[f.val, r.val] W fun e' w' => e' = .returned (.bool (refB f.d.env r)) ∧ Below W.heap.size W w') := Lib.hid (fun W => ref_walk f.name f.imps.a f.types.a f.objs.a f.imps.l.length f.types.l.length f.objs.l.length f.imps.c f.types.c f.objs.c r.mod r.idx W f.d.env (env_ni f) (env_len f) i1 (by omega) hr)
  have HEL := Lib.hid (env_len f)
  have HEG := Lib.hid (fun (j : Nat) (x : FT) (hx : f.types.l[j]? = some x) => env_get f hx)
  have HAT := Lib.hid hat
  have HC := Lib.hid hcell
  clear h hat hcell
  obtain ⟨e, he⟩ : ∃ e, e = f.d.env := ⟨_, rfl⟩
  rw [← he] at HRF HEL HEG ⊢
  clear he
  obtain ⟨nm, ⟨a1, c1, l1⟩, ⟨a2, c2, l2⟩, ⟨a3, c3, l3⟩⟩ := f
  obtain ⟨m, i⟩ := r
  obtain ⟨⟨m1, m2⟩, i1', i2⟩ := hr
  show Calls _ _ #[.agg #[.string nm, .slice a1 l1.length c1, .slice a2 l2.length c2, .slice a3 l3.length c3], .agg #[.int .i64 m, .int .i64 i]] w _
  have HRG : Hid (∀ W : World, Calls Try.prog 61 #[.agg #[.string nm, .slice a1 l1.length c1, .slice a2 l2.length c2, .slice a3 l3.length c3], .agg #[.int .i64 m, .int .i64 i]] W fun e' w' => e' = .returned (.bool (refB e ⟨m, i⟩)) ∧ Below W.heap.size W w') := HRF
  clear HRF
  dsimp only at i1 hn2 m1 m2 i1' i2 HAT HC HEL HEG
  have HBW := Lib.hid (bel2 w (.cells #[.string nm, .slice a1 l1.length c1, .slice a2 l2.length c2, .slice a3 l3.length c3] 26) (.cells #[.int .i64 m, .int .i64 i] 30))
  have HG1 := Lib.hid ((At.new w #[.string nm, .slice a1 l1.length c1, .slice a2 l2.length c2, .slice a3 l3.length c3] 26).old (.cells #[.int .i64 m, .int .i64 i] 30))
  have HG2 : Hid (At ((w.alloc (.cells #[.string nm, .slice a1 l1.length c1, .slice a2 l2.length c2, .slice a3 l3.length c3] 26)).alloc (.cells #[.int .i64 m, .int .i64 i] 30)) (w.heap.size + 1) #[.int .i64 m, .int .i64 i] 30) := Lib.hid (by have := At.new (w.alloc (.cells #[.string nm, .slice a1 l1.length c1, .slice a2 l2.length c2, .slice a3 l3.length c3] 26)) #[.int .i64 m, .int .i64 i] 30; rwa [show (w.alloc (.cells #[.string nm, .slice a1 l1.length c1, .slice a2 l2.length c2, .slice a3 l3.length c3] 26)).heap.size = w.heap.size + 1 by simp] at this)
  have f1 : True := trivial
  by_cases hp : refP e ⟨m, i⟩
  · rw [ref_yes hp] at HRG
    have hp2 := hp
    unfold refP at hp2
    dsimp only at hp2
    have HP := Lib.hid (ref_yes hp)
    clear hp
    by_cases hm : 0 < m
    · have HX := Lib.hid (closed_far (e := e) (r := ⟨m, i⟩) HP.out (fun hh => by have h1 : m = 0 := hh.1; omega))
      clear hp2
      go_enter Try.func55, Try.ntmps55
      go_wp2_with (first | (have _f := f1; refine (HRG.out _).mono ?_; rintro e' w1 ⟨rfl, hb⟩; have HB1 := Lib.hid (bel_then HBW.out hb); have g0 := ((HG2.out.bel hb).cell 0).trans (show _ = some (.int .i64 m) from rfl); clear hb _f f1))
      go_ret
      rw [HX.out]
      exact ⟨rfl, HB1.out⟩
    · obtain rfl : m = 0 := by omega
      by_cases hi : i < 16
      · have HX := Lib.hid (closed_far (e := e) (r := ⟨0, i⟩) HP.out (fun hh => by have h1 : 16 ≤ i := hh.2; omega))
        clear hp2
        go_enter Try.func55, Try.ntmps55
        go_wp2_with (first | (have _f := f1; refine (HRG.out _).mono ?_; rintro e' w1 ⟨rfl, hb⟩; have HB1 := Lib.hid (bel_then HBW.out hb); have g0 := ((HG2.out.bel hb).cell 0).trans (show _ = some (.int .i64 0) from rfl); have g1 := ((HG2.out.bel hb).cell 1).trans (show _ = some (.int .i64 i) from rfl); clear hb _f f1))
        go_ret
        rw [HX.out]
        exact ⟨rfl, HB1.out⟩
      · have hl := HEL.out
        obtain ⟨j, hji⟩ : ∃ j : Nat, i - 16 = j := ⟨(i - 16).toNat, by omega⟩
        have hij : i = j + 16 := by omega
        have hj : j < l2.length := by omega
        obtain ⟨x, hx⟩ := get_lt hj
        have HX : Hid (closedB e ⟨0, i⟩ = (x.form != 4)) := Lib.hid (by have hp := HP.out; rw [hij] at hp ⊢; exact closed_own hp (HEG.out j x hx))
        have hc := rows_form HC.out hx
        obtain ⟨fm, hfm⟩ : ∃ fm, fm = x.form := ⟨_, rfl⟩
        rw [← hfm] at hc HX
        obtain ⟨rfl, hb0⟩ := HAT.out (by omega)
        have HCF : Hid (∀ W, Below w.heap.size w W → W.cell? ⟨b, o + j * 6, none⟩ = some (.int .i64 fm)) := Lib.hid (fun W k => (k.cell (p := ⟨b, o + j * 6, none⟩) hb0).trans hc)
        have hj2 : (j : Int) < l2.length := by omega
        clear hp2 hl hx hc hfm hb0 hij hj HEG
        go_enter Try.func55, Try.ntmps55
        go_wp2_with (first | (have _f := f1; refine (HRG.out _).mono ?_; rintro e' w1 ⟨rfl, hb⟩; have HB1 := Lib.hid (bel_then HBW.out hb); have g0 := ((HG2.out.bel hb).cell 0).trans (show _ = some (.int .i64 0) from rfl); have g1 := ((HG2.out.bel hb).cell 1).trans (show _ = some (.int .i64 i) from rfl); have g2 := ((HG1.out.bel hb).cell 2).trans (show _ = some (.slice (some ⟨b, o, none⟩) l2.length c2) from rfl); have g3 := HCF.out _ HB1.out; clear hb _f f1))
        go_ret
        rw [HX.out]
        refine ⟨ret_bool (b := fm != 4) ?_, HB1.out⟩
        rw [decide_eq_false (show ¬ i < 16 by omega)]; rfl
  · rw [ref_no hp] at HRG
    have HX := Lib.hid (closed_no (ref_no hp))
    clear hp
    go_enter Try.func55, Try.ntmps55
    go_wp2_with (first | (have _f := f1; refine (HRG.out _).mono ?_; rintro e' w1 ⟨rfl, hb⟩; have HB1 := Lib.hid (bel_then HBW.out hb); clear hb _f f1))
    go_ret
    rw [HX.out]
    exact ⟨rfl, HB1.out⟩

set_option maxRecDepth 100000 in
set_option maxHeartbeats 4000000 in
theorem rclosed_walk (f : Fc) (r : Rf) (w : World) (h : f.Rd w) (hr : r.ok) (hn2 : f.types.l.length ≤ 100000000000) :
    Calls Try.prog 65 #[f.val, r.val] w fun e' w' => e' = .returned (.bool (closedB f.d.env r)) ∧ Below w.heap.size w w' := by
  have i1 := h.imps.len
  obtain ⟨b, o, hat, hcell⟩ := h.types.at'
  have HRF : Hid (∀ W : World, Calls Try.prog 66 #[f.val, r.val] W fun e' w' => e' = .returned (.bool (refB f.d.env r)) ∧ Below W.heap.size W w') := Lib.hid (fun W => mayRef_walk f.name f.imps.a f.types.a f.objs.a f.imps.l.length f.types.l.length f.objs.l.length f.imps.c f.types.c f.objs.c r.mod r.idx W f.d.env (env_ni f) (env_len f) i1 (by omega) hr)
  have HEL := Lib.hid (env_len f)
  have HEG := Lib.hid (fun (j : Nat) (x : FT) (hx : f.types.l[j]? = some x) => env_get f hx)
  have HAT := Lib.hid hat
  have HC := Lib.hid hcell
  clear h hat hcell
  obtain ⟨e, he⟩ : ∃ e, e = f.d.env := ⟨_, rfl⟩
  rw [← he] at HRF HEL HEG ⊢
  clear he
  obtain ⟨nm, ⟨a1, c1, l1⟩, ⟨a2, c2, l2⟩, ⟨a3, c3, l3⟩⟩ := f
  obtain ⟨m, i⟩ := r
  obtain ⟨⟨m1, m2⟩, i1', i2⟩ := hr
  show Calls _ _ #[.agg #[.string nm, .slice a1 l1.length c1, .slice a2 l2.length c2, .slice a3 l3.length c3], .agg #[.int .i64 m, .int .i64 i]] w _
  have HRG : Hid (∀ W : World, Calls Try.prog 66 #[.agg #[.string nm, .slice a1 l1.length c1, .slice a2 l2.length c2, .slice a3 l3.length c3], .agg #[.int .i64 m, .int .i64 i]] W fun e' w' => e' = .returned (.bool (refB e ⟨m, i⟩)) ∧ Below W.heap.size W w') := HRF
  clear HRF
  dsimp only at i1 hn2 m1 m2 i1' i2 HAT HC HEL HEG
  have HBW := Lib.hid (bel2 w (.cells #[.string nm, .slice a1 l1.length c1, .slice a2 l2.length c2, .slice a3 l3.length c3] 26) (.cells #[.int .i64 m, .int .i64 i] 30))
  have HG1 := Lib.hid ((At.new w #[.string nm, .slice a1 l1.length c1, .slice a2 l2.length c2, .slice a3 l3.length c3] 26).old (.cells #[.int .i64 m, .int .i64 i] 30))
  have HG2 : Hid (At ((w.alloc (.cells #[.string nm, .slice a1 l1.length c1, .slice a2 l2.length c2, .slice a3 l3.length c3] 26)).alloc (.cells #[.int .i64 m, .int .i64 i] 30)) (w.heap.size + 1) #[.int .i64 m, .int .i64 i] 30) := Lib.hid (by have := At.new (w.alloc (.cells #[.string nm, .slice a1 l1.length c1, .slice a2 l2.length c2, .slice a3 l3.length c3] 26)) #[.int .i64 m, .int .i64 i] 30; rwa [show (w.alloc (.cells #[.string nm, .slice a1 l1.length c1, .slice a2 l2.length c2, .slice a3 l3.length c3] 26)).heap.size = w.heap.size + 1 by simp] at this)
  have f1 : True := trivial
  by_cases hp : refP e ⟨m, i⟩
  · rw [ref_yes hp] at HRG
    have hp2 := hp
    unfold refP at hp2
    dsimp only at hp2
    have HP := Lib.hid (ref_yes hp)
    clear hp
    by_cases hm : 0 < m
    · have HX := Lib.hid (closed_far (e := e) (r := ⟨m, i⟩) HP.out (fun hh => by have h1 : m = 0 := hh.1; omega))
      clear hp2
      go_enter Try.func65, Try.ntmps65
      go_wp2_with (first | (have _f := f1; refine (HRG.out _).mono ?_; rintro e' w1 ⟨rfl, hb⟩; have HB1 := Lib.hid (bel_then HBW.out hb); have g0 := ((HG2.out.bel hb).cell 0).trans (show _ = some (.int .i64 m) from rfl); clear hb _f f1))
      go_ret
      rw [HX.out]
      exact ⟨rfl, HB1.out⟩
    · obtain rfl : m = 0 := by omega
      by_cases hi : i < 16
      · have HX := Lib.hid (closed_far (e := e) (r := ⟨0, i⟩) HP.out (fun hh => by have h1 : 16 ≤ i := hh.2; omega))
        clear hp2
        go_enter Try.func65, Try.ntmps65
        go_wp2_with (first | (have _f := f1; refine (HRG.out _).mono ?_; rintro e' w1 ⟨rfl, hb⟩; have HB1 := Lib.hid (bel_then HBW.out hb); have g0 := ((HG2.out.bel hb).cell 0).trans (show _ = some (.int .i64 0) from rfl); have g1 := ((HG2.out.bel hb).cell 1).trans (show _ = some (.int .i64 i) from rfl); clear hb _f f1))
        go_ret
        rw [HX.out]
        exact ⟨rfl, HB1.out⟩
      · have hl := HEL.out
        obtain ⟨j, hji⟩ : ∃ j : Nat, i - 16 = j := ⟨(i - 16).toNat, by omega⟩
        have hij : i = j + 16 := by omega
        have hj : j < l2.length := by omega
        obtain ⟨x, hx⟩ := get_lt hj
        have HX : Hid (closedB e ⟨0, i⟩ = (x.form != 4)) := Lib.hid (by have hp := HP.out; rw [hij] at hp ⊢; exact closed_own hp (HEG.out j x hx))
        have hc := rows_form HC.out hx
        obtain ⟨fm, hfm⟩ : ∃ fm, fm = x.form := ⟨_, rfl⟩
        rw [← hfm] at hc HX
        obtain ⟨rfl, hb0⟩ := HAT.out (by omega)
        have HCF : Hid (∀ W, Below w.heap.size w W → W.cell? ⟨b, o + j * 6, none⟩ = some (.int .i64 fm)) := Lib.hid (fun W k => (k.cell (p := ⟨b, o + j * 6, none⟩) hb0).trans hc)
        have hj2 : (j : Int) < l2.length := by omega
        clear hp2 hl hx hc hfm hb0 hij hj HEG
        go_enter Try.func65, Try.ntmps65
        go_wp2_with (first | (have _f := f1; refine (HRG.out _).mono ?_; rintro e' w1 ⟨rfl, hb⟩; have HB1 := Lib.hid (bel_then HBW.out hb); have g0 := ((HG2.out.bel hb).cell 0).trans (show _ = some (.int .i64 0) from rfl); have g1 := ((HG2.out.bel hb).cell 1).trans (show _ = some (.int .i64 i) from rfl); have g2 := ((HG1.out.bel hb).cell 2).trans (show _ = some (.slice (some ⟨b, o, none⟩) l2.length c2) from rfl); have g3 := HCF.out _ HB1.out; clear hb _f f1))
        go_ret
        rw [HX.out]
        refine ⟨ret_bool (b := fm != 4) ?_, HB1.out⟩
        rw [decide_eq_false (show ¬ i < 16 by omega)]; rfl
  · rw [ref_no hp] at HRG
    have HX := Lib.hid (closed_no (ref_no hp))
    clear hp
    go_enter Try.func65, Try.ntmps65
    go_wp2_with (first | (have _f := f1; refine (HRG.out _).mono ?_; rintro e' w1 ⟨rfl, hb⟩; have HB1 := Lib.hid (bel_then HBW.out hb); clear hb _f f1))
    go_ret
    rw [HX.out]
    exact ⟨rfl, HB1.out⟩
end

section
set_option linter.unusedVariables false
set_option linter.unusedSimpArgs false
open Go.RowKit

/-- the loop over the fields stands at a place. -/
def FldTo (e : Env) (l : List Fld) (k : Nat) : Prop := fieldsOk e [] l = fieldsOk e ((l.take k).map Fld.name) (l.drop k)
theorem FldTo.start (e : Env) (l : List Fld) : FldTo e l 0 := rfl
theorem seenF_iff {l : List Fld} {k : Nat} {s : ByteArray} : ((l.take k).map Fld.name).any (fun x => decide (x = s)) = true ↔ ∃ j x, j < k ∧ l[j]? = some x ∧ x.name = s := by
  rw [List.any_map, List.any_eq_true]
  constructor
  · rintro ⟨x, hx, h⟩
    obtain ⟨j, hj⟩ := List.mem_iff_getElem?.1 hx
    rw [List.getElem?_take] at hj
    split at hj
    · exact ⟨j, x, by assumption, hj, by simpa using h⟩
    · cases hj
  · rintro ⟨j, x, hj, hx, rfl⟩
    refine ⟨x, List.mem_iff_getElem?.2 ⟨j, ?_⟩, by simp⟩
    rw [List.getElem?_take, if_pos hj]; exact hx
theorem FldTo.eq {e : Env} {l : List Fld} {k : Nat} (h : FldTo e l k) {x : Fld} (hx : l[k]? = some x) :
    fieldsOk e [] l = (fieldOk e x && !((l.take k).map Fld.name).any (fun s => decide (s = x.name)) && fieldsOk e ((l.take (k + 1)).map Fld.name) (l.drop (k + 1))) := by
  unfold FldTo at h
  rw [h, drop_get hx, take_get hx, List.map_append]; rfl
theorem FldTo.next {e : Env} {l : List Fld} {k : Nat} (h : FldTo e l k) {x : Fld} (hx : l[k]? = some x) (h1 : fieldOk e x = true) (h3 : ((l.take k).map Fld.name).any (fun s => decide (s = x.name)) = false) : FldTo e l (k + 1) := by
  unfold FldTo
  rw [h.eq hx, h1, h3]; rfl
theorem FldTo.bad {e : Env} {l : List Fld} {k : Nat} (h : FldTo e l k) {x : Fld} (hx : l[k]? = some x) (h1 : fieldOk e x = false) : fieldsOk e [] l = false := by rw [h.eq hx, h1]; rfl
theorem FldTo.twice {e : Env} {l : List Fld} {k : Nat} (h : FldTo e l k) {x : Fld} (hx : l[k]? = some x) (h1 : ((l.take k).map Fld.name).any (fun s => decide (s = x.name)) = true) : fieldsOk e [] l = false := by rw [h.eq hx, h1]; simp
theorem FldTo.done {e : Env} {l : List Fld} {k : Nat} (h : FldTo e l k) (hk : l.length ≤ k) : fieldsOk e [] l = true := by
  unfold FldTo at h
  rw [h, List.drop_of_length_le hk]; rfl
theorem fld_name {e : Env} {x : Fld} (h : mayName x.name = false) : fieldOk e x = false := by unfold fieldOk; rw [h]; rfl
theorem fld_off {e : Env} {x : Fld} (h : ¬ (0 ≤ x.off ∧ x.off ≤ 262144)) : fieldOk e x = false := by unfold fieldOk; rw [decide_eq_false h]; simp
theorem fld_base {e : Env} {x : Fld} (h : closedB e x.base = false) : fieldOk e x = false := by unfold fieldOk; rw [h]; simp
theorem fld_yes {e : Env} {x : Fld} (h1 : mayName x.name = true) (h2 : 0 ≤ x.off ∧ x.off ≤ 262144) (h3 : closedB e x.base = true) : fieldOk e x = true := by unfold fieldOk; rw [h1, decide_eq_true h2, h3]; rfl

/-! ### types, by their forms -/
def recEnd (t : TD) : Bool := decide (t.len = 0) && noRef t.base && sizeIn t.size && decide (t.fields.length ≤ 100)
theorem may_rec {e : Env} {t : TD} (h : t.form = 2) : mayTypeB e t = (fieldsOk e [] t.fields && recEnd t) := by unfold mayTypeB; rw [if_pos h]; rfl
def recHead (t : TD) : Prop := t.len = 0 ∧ t.base.mod = 0 ∧ t.base.idx = 0 ∧ 1 ≤ t.size ∧ t.size ≤ 262144
theorem recEnd_no {t : TD} (h : ¬ recHead t) : recEnd t = false := by
  unfold recEnd noRef sizeIn
  rw [← Bool.decide_and, ← Bool.decide_and, ← Bool.decide_and]
  exact decide_eq_false (fun q => h ⟨q.1.1.1, q.1.1.2.1, q.1.1.2.2, q.1.2.1, q.1.2.2⟩)
theorem recEnd_yes {t : TD} (h : recHead t) : recEnd t = decide ((t.fields.length : Int) ≤ 100) := by
  unfold recEnd noRef sizeIn
  rw [← Bool.decide_and, ← Bool.decide_and, ← Bool.decide_and]
  obtain ⟨a, b, c, d, e⟩ := h
  exact decide_eq_decide.2 ⟨fun q => by omega, fun q => ⟨⟨⟨a, b, c⟩, d, e⟩, by omega⟩⟩
def arrHead (t : TD) : Prop := 1 ≤ t.len ∧ t.len ≤ 65535 ∧ 1 ≤ t.size ∧ t.size ≤ 262144 ∧ t.fields.length = 0
instance (t : TD) : Decidable (arrHead t) := by unfold arrHead; infer_instance
theorem may_arr {e : Env} {t : TD} (h : t.form = 1) : mayTypeB e t = (decide (arrHead t) && closedB e t.base) := by
  unfold mayTypeB sizeIn arrHead
  rw [if_neg (by rw [h]; decide), if_pos h]
  congr 1
  rw [← Bool.decide_and, ← Bool.decide_and]
  exact decide_eq_decide.2 (by omega)
def bareT (t : TD) : Prop := t.len = 0 ∧ t.size = 0 ∧ t.fields.length = 0
instance (t : TD) : Decidable (bareT t) := by unfold bareT; infer_instance
theorem may_ptr {e : Env} {t : TD} (h : t.form = 3 ∨ t.form = 4) : mayTypeB e t = (decide (bareT t) && closedB e t.base) := by
  unfold mayTypeB
  rw [if_neg (by rcases h with h | h <;> rw [h] <;> decide), if_neg (by rcases h with h | h <;> rw [h] <;> decide), if_pos h]; rfl
theorem may_none {e : Env} {t : TD} (h1 : t.form ≠ 1) (h2 : t.form ≠ 2) (h3 : t.form ≠ 3) (h4 : t.form ≠ 4) : mayTypeB e t = false := by
  unfold mayTypeB
  rw [if_neg h2, if_neg h1, if_neg (by omega)]
end

section
set_option linter.unusedVariables false
set_option linter.unusedSimpArgs false
open Go.RowKit

/-- 's[:k]'. -/
theorem Rows.take' {α : Type} {D : Dat α} {w : World} {s : Sl α} (h : Rows D w s) (k : Nat) : Rows D w ⟨s.a, s.c, s.l.take k⟩ := by
  obtain ⟨⟨⟨b, o, h1, h2⟩, h3, h4, h5⟩, hal⟩ := h
  have hfl : ∀ (j : Nat) (u : Value), ((s.l.take k).flatMap D.cells)[j]? = some u → (s.l.flatMap D.cells)[j]? = some u := by
    intro j u hj
    have e : s.l.flatMap D.cells = (s.l.take k).flatMap D.cells ++ (s.l.drop k).flatMap D.cells := by rw [← List.flatMap_append, List.take_append_drop]
    rw [e, List.getElem?_append_left (List.getElem?_eq_some_iff.1 hj).1]; exact hj
  refine ⟨⟨⟨b, o, fun h0 => h1 ?_, fun j u hj => h2 j u (hfl j u hj)⟩, fun hn => ?_, ?_, h5⟩, fun x hx => hal x (List.mem_of_mem_take hx)⟩
  · rw [flat_len] at h0 ⊢
    have hk : (s.l.take k).length ≤ s.l.length := by rw [List.length_take]; omega
    exact Nat.lt_of_lt_of_le h0 (Nat.mul_le_mul_right _ hk)
  · obtain ⟨q1, q2⟩ := h3 hn
    refine ⟨by rw [List.length_take]; show min k s.l.length = 0; omega, q2⟩
  · show (s.l.take k).length ≤ s.c
    rw [List.length_take]; omega

/-- where one stands first. -/
def WhereP {α : Type} (m : List α) (p : α → Bool) (r : Int) : Prop := (r = -1 ∧ ∀ (j : Nat) (y : α), m[j]? = some y → p y = false) ∨ (0 ≤ r ∧ ∃ (j : Nat) (y : α), m[j]? = some y ∧ p y = true)
theorem where_any {α : Type} {m : List α} {p : α → Bool} {r : Int} (h : WhereP m p r) : decide (0 ≤ r) = m.any p := by
  rcases h with ⟨rfl, h⟩ | ⟨h0, j, y, hy, h⟩
  · symm
    rw [show decide ((0 : Int) ≤ -1) = false from rfl, List.any_eq_false]
    intro y hy
    obtain ⟨j, hj⟩ := List.mem_iff_getElem?.1 hy
    rw [h j y hj]; decide
  · rw [decide_eq_true h0]; symm
    rw [List.any_eq_true]
    exact ⟨y, List.mem_of_getElem? hy, h⟩


set_option maxHeartbeats 2000000 in
theorem indexFld_walk (m : Sl Fld) (cap : Value) (p : Fld → Bool) (w : World) (hm : Rows fldD w m)
    (hp : ∀ (x : Fld) (W : World), x ∈ m.l → Below w.heap.size w W → Calls Try.prog 58 #[.agg (fldD.cells x).toArray, cap] W fun e w' => e = .returned (.bool (p x)) ∧ Below W.heap.size W w') :
    Calls Try.prog 74 #[m.val, .func (.func 58) #[] #[cap]] w fun e w' => (∃ r : Int, e = .returned (.int .i64 r) ∧ WhereP m.l p r) ∧ Below w.heap.size w w' := by
  have hlen := hm.len
  obtain ⟨b, o, hat, hcell⟩ := hm.at'
  have HAt := Lib.hid hat
  have HC := Lib.hid hcell
  have HP := Lib.hid hp
  clear hat hcell hm hp
  obtain ⟨la, lc, m⟩ := m
  show Calls _ _ #[.slice la m.length lc, .func (.func 58) #[] #[cap]] w _
  dsimp only at HAt HC hlen HP ⊢
  go_enter Try.func74, Try.ntmps74
  go_wp2_with fail
  go_loopw [5, 8] (fun _ i wr => ∃ k : Nat, k ≤ m.length ∧ i = .int .i64 k ∧ (∀ (j : Nat) (y : Fld), j < k → m[j]? = some y → p y = false) ∧ Below w.heap.size w wr) (fun _ i _ => m.length - (intOf i).toNat)
  case atStart => exact ⟨0, Nat.zero_le _, rfl, fun j y h => by omega, Below.refl _ _⟩
  case round =>
    obtain ⟨k, hk, rfl, hj, hB⟩ := hrel
    have HJ := Lib.hid hj
    have HB := Lib.hid hB
    clear hj hB
    by_cases hlt : k < m.length
    · obtain ⟨⟨yn, yo, ⟨ym, yi⟩⟩, hy⟩ := get_lt hlt
      have HY := Lib.hid hy
      obtain ⟨rfl, hb⟩ := HAt.out (by omega)
      have HCO : Hid (∀ (q : Nat) (v : Value), ([.string yn, .int .i64 yo, .int .i64 ym, .int .i64 yi] : List Value)[q]? = some v → wr.cell? ⟨b, o + k * 4 + q, none⟩ = some v) := Lib.hid (fun q v hv => (HB.out.cell (p := ⟨b, o + k * 4 + q, none⟩) hb).trans (HC.out k _ hy q v hv))
      have HQ : Hid (∀ W, Below w.heap.size w W → Calls Try.prog 58 #[.agg #[.string yn, .int .i64 yo, .int .i64 ym, .int .i64 yi], cap] W fun e w' => e = .returned (.bool (p ⟨yn, yo, ⟨ym, yi⟩⟩)) ∧ Below W.heap.size W w') := Lib.hid (fun W k => HP.out ⟨yn, yo, ⟨ym, yi⟩⟩ W (List.mem_of_getElem? hy) k)
      have HLT := Lib.hid hlt
      clear hy hb
      have f2 : True := trivial
      have f3 : True := trivial
      cases he : p ⟨yn, yo, ⟨ym, yi⟩⟩ with
      | true =>
        rw [he] at HQ
        have HW : Hid (WhereP m p k) := Lib.hid (.inr ⟨by omega, k, _, HY.out, he⟩)
        clear he
        go_wp2_with (first | (have _f := f2; refine wpList_load_mid rfl 37 (.tmp 14) rfl b (o + k * 4) rfl [.string yn, .int .i64 yo, .int .i64 ym, .int .i64 yi] _ HCO.out Try.underlying37 rfl (by kernel_rfl) ?_; clear _f f2) | (have _f := f3; refine (HQ.out _ HB.out).mono ?_; rintro e w1 ⟨rfl, hb⟩; have HB1 := Lib.hid (bel_then HB.out hb); clear hb _f f3))
        go_ret
        exact ⟨⟨_, rfl, HW.out⟩, HB1.out⟩
      | false =>
        rw [he] at HQ
        have HE := Lib.hid he
        clear he
        go_wp2_with (first | (have _f := f2; refine wpList_load_mid rfl 37 (.tmp 14) rfl b (o + k * 4) rfl [.string yn, .int .i64 yo, .int .i64 ym, .int .i64 yi] _ HCO.out Try.underlying37 rfl (by kernel_rfl) ?_; clear _f f2) | (have _f := f3; refine (HQ.out _ HB.out).mono ?_; rintro e w1 ⟨rfl, hb⟩; have HB1 := Lib.hid (bel_then HB.out hb); clear hb _f f3))
        go_roundw
        case rel =>
          refine ⟨k + 1, HLT.out, by go_num, fun j y hj hy => ?_, HB1.out⟩
          rcases Nat.lt_or_ge j k with h | h
          · exact HJ.out j y h hy
          · obtain rfl : j = k := by omega
            rw [HY.out] at hy
            obtain rfl := Option.some.inj hy
            exact HE.out
        case measure => simp [intOf]; have := HLT.out; omega
    · have HW : Hid (WhereP m p (-1)) := Lib.hid (.inl ⟨rfl, fun j y hy => HJ.out j y (by have := (List.getElem?_eq_some_iff.1 hy).1; omega) hy⟩)
      clear hk
      go_wp2
      go_ret
      exact ⟨⟨_, rfl, HW.out⟩, HB.out⟩

theorem containsFld_walk (m : Sl Fld) (cap : Value) (p : Fld → Bool) (w : World) (hm : Rows fldD w m)
    (hp : ∀ (x : Fld) (W : World), x ∈ m.l → Below w.heap.size w W → Calls Try.prog 58 #[.agg (fldD.cells x).toArray, cap] W fun e w' => e = .returned (.bool (p x)) ∧ Below W.heap.size W w') :
    Calls Try.prog 57 #[m.val, .func (.func 58) #[] #[cap]] w fun e w' => e = .returned (.bool (m.l.any p)) ∧ Below w.heap.size w w' := by
  have HI := Lib.hid (indexFld_walk m cap p w hm hp)
  clear hm hp
  obtain ⟨la, lc, m⟩ := m
  show Calls _ _ #[.slice la m.length lc, .func (.func 58) #[] #[cap]] w _
  have HJ : Hid (Calls Try.prog 74 #[.slice la m.length lc, .func (.func 58) #[] #[cap]] w fun e w' => (∃ r : Int, e = .returned (.int .i64 r) ∧ WhereP m p r) ∧ Below w.heap.size w w') := HI
  clear HI
  go_enter Try.func57, Try.ntmps57
  go_wp2_with (refine HJ.out.mono ?_; rintro e w1 ⟨⟨r, rfl, hr⟩, hb⟩; have HR := Lib.hid (where_any hr); have HB := Lib.hid hb; clear hr hb)
  go_ret
  exact ⟨ret_bool HR.out, HB.out⟩


set_option maxHeartbeats 2000000 in
theorem indexPrm_walk (m : Sl Prm) (cap : Value) (p : Prm → Bool) (w : World) (hm : Rows prmD w m)
    (hp : ∀ (x : Prm) (W : World), x ∈ m.l → Below w.heap.size w W → Calls Try.prog 60 #[.agg (prmD.cells x).toArray, cap] W fun e w' => e = .returned (.bool (p x)) ∧ Below W.heap.size W w') :
    Calls Try.prog 75 #[m.val, .func (.func 60) #[] #[cap]] w fun e w' => (∃ r : Int, e = .returned (.int .i64 r) ∧ WhereP m.l p r) ∧ Below w.heap.size w w' := by
  have hlen := hm.len
  obtain ⟨b, o, hat, hcell⟩ := hm.at'
  have HAt := Lib.hid hat
  have HC := Lib.hid hcell
  have HP := Lib.hid hp
  clear hat hcell hm hp
  obtain ⟨la, lc, m⟩ := m
  show Calls _ _ #[.slice la m.length lc, .func (.func 60) #[] #[cap]] w _
  dsimp only at HAt HC hlen HP ⊢
  go_enter Try.func75, Try.ntmps75
  go_wp2_with fail
  go_loopw [5, 8] (fun _ i wr => ∃ k : Nat, k ≤ m.length ∧ i = .int .i64 k ∧ (∀ (j : Nat) (y : Prm), j < k → m[j]? = some y → p y = false) ∧ Below w.heap.size w wr) (fun _ i _ => m.length - (intOf i).toNat)
  case atStart => exact ⟨0, Nat.zero_le _, rfl, fun j y h => by omega, Below.refl _ _⟩
  case round =>
    obtain ⟨k, hk, rfl, hj, hB⟩ := hrel
    have HJ := Lib.hid hj
    have HB := Lib.hid hB
    clear hj hB
    by_cases hlt : k < m.length
    · obtain ⟨⟨yv, ⟨ym, yi⟩⟩, hy⟩ := get_lt hlt
      have HY := Lib.hid hy
      obtain ⟨rfl, hb⟩ := HAt.out (by omega)
      have HCO : Hid (∀ (q : Nat) (v : Value), ([.bool yv, .int .i64 ym, .int .i64 yi] : List Value)[q]? = some v → wr.cell? ⟨b, o + k * 3 + q, none⟩ = some v) := Lib.hid (fun q v hv => (HB.out.cell (p := ⟨b, o + k * 3 + q, none⟩) hb).trans (HC.out k _ hy q v hv))
      have HQ : Hid (∀ W, Below w.heap.size w W → Calls Try.prog 60 #[.agg #[.bool yv, .int .i64 ym, .int .i64 yi], cap] W fun e w' => e = .returned (.bool (p ⟨yv, ⟨ym, yi⟩⟩)) ∧ Below W.heap.size W w') := Lib.hid (fun W k => HP.out ⟨yv, ⟨ym, yi⟩⟩ W (List.mem_of_getElem? hy) k)
      have HLT := Lib.hid hlt
      clear hy hb
      have f2 : True := trivial
      have f3 : True := trivial
      cases he : p ⟨yv, ⟨ym, yi⟩⟩ with
      | true =>
        rw [he] at HQ
        have HW : Hid (WhereP m p k) := Lib.hid (.inr ⟨by omega, k, _, HY.out, he⟩)
        clear he
        go_wp2_with (first | (have _f := f2; refine wpList_load_mid rfl 97 (.tmp 14) rfl b (o + k * 3) rfl [.bool yv, .int .i64 ym, .int .i64 yi] _ HCO.out Try.underlying97 rfl (by kernel_rfl) ?_; clear _f f2) | (have _f := f3; refine (HQ.out _ HB.out).mono ?_; rintro e w1 ⟨rfl, hb⟩; have HB1 := Lib.hid (bel_then HB.out hb); clear hb _f f3))
        go_ret
        exact ⟨⟨_, rfl, HW.out⟩, HB1.out⟩
      | false =>
        rw [he] at HQ
        have HE := Lib.hid he
        clear he
        go_wp2_with (first | (have _f := f2; refine wpList_load_mid rfl 97 (.tmp 14) rfl b (o + k * 3) rfl [.bool yv, .int .i64 ym, .int .i64 yi] _ HCO.out Try.underlying97 rfl (by kernel_rfl) ?_; clear _f f2) | (have _f := f3; refine (HQ.out _ HB.out).mono ?_; rintro e w1 ⟨rfl, hb⟩; have HB1 := Lib.hid (bel_then HB.out hb); clear hb _f f3))
        go_roundw
        case rel =>
          refine ⟨k + 1, HLT.out, by go_num, fun j y hj hy => ?_, HB1.out⟩
          rcases Nat.lt_or_ge j k with h | h
          · exact HJ.out j y h hy
          · obtain rfl : j = k := by omega
            rw [HY.out] at hy
            obtain rfl := Option.some.inj hy
            exact HE.out
        case measure => simp [intOf]; have := HLT.out; omega
    · have HW : Hid (WhereP m p (-1)) := Lib.hid (.inl ⟨rfl, fun j y hy => HJ.out j y (by have := (List.getElem?_eq_some_iff.1 hy).1; omega) hy⟩)
      clear hk
      go_wp2
      go_ret
      exact ⟨⟨_, rfl, HW.out⟩, HB.out⟩

theorem containsPrm_walk (m : Sl Prm) (cap : Value) (p : Prm → Bool) (w : World) (hm : Rows prmD w m)
    (hp : ∀ (x : Prm) (W : World), x ∈ m.l → Below w.heap.size w W → Calls Try.prog 60 #[.agg (prmD.cells x).toArray, cap] W fun e w' => e = .returned (.bool (p x)) ∧ Below W.heap.size W w') :
    Calls Try.prog 59 #[m.val, .func (.func 60) #[] #[cap]] w fun e w' => e = .returned (.bool (m.l.any p)) ∧ Below w.heap.size w w' := by
  have HI := Lib.hid (indexPrm_walk m cap p w hm hp)
  clear hm hp
  obtain ⟨la, lc, m⟩ := m
  show Calls _ _ #[.slice la m.length lc, .func (.func 60) #[] #[cap]] w _
  have HJ : Hid (Calls Try.prog 75 #[.slice la m.length lc, .func (.func 60) #[] #[cap]] w fun e w' => (∃ r : Int, e = .returned (.int .i64 r) ∧ WhereP m p r) ∧ Below w.heap.size w w') := HI
  clear HI
  go_enter Try.func59, Try.ntmps59
  go_wp2_with (refine HJ.out.mono ?_; rintro e w1 ⟨⟨r, rfl, hr⟩, hb⟩; have HR := Lib.hid (where_any hr); have HB := Lib.hid hb; clear hr hb)
  go_ret
  exact ⟨ret_bool HR.out, HB.out⟩
end

section
set_option linter.unusedVariables false
set_option linter.unusedSimpArgs false
open Go.RowKit

def anyF (p : TD → Bool) (f : Fc) : Bool := f.d.types.any p
theorem rows_fields {w : World} {l2 : List FT} {b o : Nat} (h : RowAt ftD w b o l2) {j : Nat} {x : FT} (hx : l2[j]? = some x) : w.cell? ⟨b, o + j * 6 + 5, none⟩ = some x.fields.val := h j x hx 5 _ rfl
theorem rows_params {w : World} {l2 : List FO} {b o : Nat} (h : RowAt foD w b o l2) {j : Nat} {x : FO} (hx : l2[j]? = some x) : w.cell? ⟨b, o + j * 6 + 5, none⟩ = some x.params.val := h j x hx 5 _ rfl
theorem much_yes1 {f : Fc} (h : 40 < f.imps.l.length ∨ 300 < f.types.l.length ∨ 1000 < f.objs.l.length) : muchF f.d = true := by
  unfold muchF
  rw [decide_eq_true (by show 40 < f.imps.l.length ∨ 300 < (f.types.l.map FT.d).length ∨ 1000 < (f.objs.l.map FO.d).length; rw [List.length_map, List.length_map]; exact h)]; rfl
theorem much_yes2 {f : Fc} {j : Nat} {x : FT} (hx : f.types.l[j]? = some x) (h : 120 < x.fields.l.length) : muchF f.d = true := by
  unfold muchF
  have : f.d.types.any (fun t => decide (120 < t.fields.length)) = true := by
    rw [List.any_eq_true]
    exact ⟨x.d, List.mem_map.2 ⟨x, List.mem_of_getElem? hx, rfl⟩, decide_eq_true h⟩
  rw [this, Bool.or_true]; rfl
theorem much_yes3 {f : Fc} {j : Nat} {x : FO} (hx : f.objs.l[j]? = some x) (h : 40 < x.params.l.length) : muchF f.d = true := by
  unfold muchF
  have : f.d.objs.any (fun t => decide (40 < t.params.length)) = true := by
    rw [List.any_eq_true]
    exact ⟨x.d, List.mem_map.2 ⟨x, List.mem_of_getElem? hx, rfl⟩, decide_eq_true h⟩
  rw [this, Bool.or_true]
theorem much_no {f : Fc} (h : ¬ (40 < f.imps.l.length ∨ 300 < f.types.l.length ∨ 1000 < f.objs.l.length)) (h2 : ∀ (j : Nat) (x : FT), f.types.l[j]? = some x → ¬ 120 < x.fields.l.length) (h3 : ∀ (j : Nat) (x : FO), f.objs.l[j]? = some x → ¬ 40 < x.params.l.length) : muchF f.d = false := by
  unfold muchF
  rw [decide_eq_false (by show ¬ (40 < f.imps.l.length ∨ 300 < (f.types.l.map FT.d).length ∨ 1000 < (f.objs.l.map FO.d).length); rw [List.length_map, List.length_map]; exact h)]
  have e2 : f.d.types.any (fun t => decide (120 < t.fields.length)) = false := by
    rw [Bool.eq_false_iff]; intro hh
    rw [List.any_eq_true] at hh
    obtain ⟨t, ht, hd⟩ := hh
    obtain ⟨x, hx, rfl⟩ := List.mem_map.1 ht
    obtain ⟨j, hj⟩ := List.mem_iff_getElem?.1 hx
    exact h2 j x hj (of_decide_eq_true hd)
  have e3 : f.d.objs.any (fun t => decide (40 < t.params.length)) = false := by
    rw [Bool.eq_false_iff]; intro hh
    rw [List.any_eq_true] at hh
    obtain ⟨t, ht, hd⟩ := hh
    obtain ⟨x, hx, rfl⟩ := List.mem_map.1 ht
    obtain ⟨j, hj⟩ := List.mem_iff_getElem?.1 hx
    exact h3 j x hj (of_decide_eq_true hd)
  rw [e2, e3]; rfl

set_option maxRecDepth 100000 in
set_option maxHeartbeats 4000000 in
theorem muchF_walk (f : Fc) (w : World) (h : f.Rd w) :
    Calls Try.prog 9 #[f.val] w fun e' w' => e' = .returned (.bool (muchF f.d)) ∧ Below w.heap.size w w' := by
  have i1 := h.imps.len
  have i2 := h.types.len
  have i3 := h.objs.len
  obtain ⟨b2, o2, hat2, hcell2⟩ := h.types.at'
  obtain ⟨b3, o3, hat3, hcell3⟩ := h.objs.at'
  have HF2 := Lib.hid (fun (j : Nat) (x : FT) (hx : f.types.l[j]? = some x) => (h.types.ok hx).2.2.2.2.len)
  have HF3 := Lib.hid (fun (j : Nat) (x : FO) (hx : f.objs.l[j]? = some x) => (h.objs.ok hx).2.2.2.2.len)
  have HY1 := Lib.hid (much_yes1 (f := f))
  have HY2 := Lib.hid (fun (j : Nat) (x : FT) => much_yes2 (f := f) (j := j) (x := x))
  have HY3 := Lib.hid (fun (j : Nat) (x : FO) => much_yes3 (f := f) (j := j) (x := x))
  have HNO := Lib.hid (much_no (f := f))
  have HAT2 := Lib.hid hat2
  have HAT3 := Lib.hid hat3
  have HC2 := Lib.hid hcell2
  have HC3 := Lib.hid hcell3
  clear h hat2 hat3 hcell2 hcell3
  obtain ⟨r, hr⟩ : ∃ r, r = muchF f.d := ⟨_, rfl⟩
  rw [← hr] at HY1 HY2 HY3 HNO ⊢
  clear hr
  obtain ⟨nm, ⟨a1, c1, l1⟩, ⟨a2, c2, l2⟩, ⟨a3, c3, l3⟩⟩ := f
  show Calls _ _ #[.agg #[.string nm, .slice a1 l1.length c1, .slice a2 l2.length c2, .slice a3 l3.length c3]] w _
  dsimp only at i1 i2 i3 HAT2 HAT3 HC2 HC3 HF2 HF3 HY1 HY2 HY3 HNO
  by_cases hbig : 40 < (l1.length : Int) ∨ 300 < (l2.length : Int) ∨ 1000 < (l3.length : Int)
  · obtain rfl : r = true := HY1.out (by omega)
    rcases hbig with hb | hb | hb
    all_goals (go_enter Try.func9, Try.ntmps9; go_wp2)
    all_goals (go_ret; exact ⟨rfl, bel1 _ _⟩)
  · have d1 : decide (40 < (l1.length : Int)) = false := decide_eq_false (by omega)
    have d2 : decide (300 < (l2.length : Int)) = false := decide_eq_false (by omega)
    have d3 : decide (1000 < (l3.length : Int)) = false := decide_eq_false (by omega)
    have HS : Hid (l1.length ≤ 40 ∧ l2.length ≤ 300 ∧ l3.length ≤ 1000) := Lib.hid (by omega)
    have HBW := Lib.hid (bel1 w (.cells #[.string nm, .slice a1 l1.length c1, .slice a2 l2.length c2, .slice a3 l3.length c3] 26))
    clear hbig
    go_enter Try.func9, Try.ntmps9
    go_wp2
    go_loop [3] (fun i => ∃ k : Nat, i = .int .i64 k ∧ k ≤ l2.length ∧ ∀ (j : Nat) (x : FT), j < k → l2[j]? = some x → ¬ 120 < x.fields.l.length) (fun i => l2.length - (intOf i).toNat)
    case atStart => exact ⟨0, rfl, Nat.zero_le _, fun j x h => by omega⟩
    case round =>
      obtain ⟨k, rfl, hk, hj⟩ := hrel
      have HJ := Lib.hid hj
      clear hj
      by_cases hlt : k < l2.length
      · obtain ⟨⟨fo, le, si, ba, ⟨fa, fcc, fl⟩⟩, hx⟩ := get_lt hlt
        obtain ⟨rfl, hb⟩ := HAT2.out (by omega)
        have c0 := (HBW.out.cell (p := ⟨b2, o2 + k * 6 + 5, none⟩) hb).trans ((rows_fields HC2.out hx).trans (show _ = some (.slice fa fl.length fcc) from rfl))
        have hf := HF2.out k _ hx
        dsimp only at hf
        have HX := Lib.hid hx
        have HLT := Lib.hid hlt
        clear hx hb
        by_cases hq : (120 : Int) < fl.length
        · obtain rfl : r = true := HY2.out k _ HX.out (by dsimp only; omega)
          go_wp2
          go_ret
          exact ⟨rfl, HBW.out⟩
        · have HQ := Lib.hid hq
          go_wp2
          go_round
          case rel =>
            refine ⟨k + 1, by go_num, HLT.out, fun j x hj hx => ?_⟩
            rcases Nat.lt_or_ge j k with h | h
            · exact HJ.out j x h hx
            · obtain rfl : j = k := by omega
              rw [HX.out] at hx
              obtain rfl := Option.some.inj hx
              have := HQ.out
              dsimp only
              omega
          case measure => simp [intOf]; have := HLT.out; omega
      · obtain rfl : k = l2.length := by omega
        clear hk hlt
        go_wp2
        go_loop [4] (fun i => ∃ k : Nat, i = .int .i64 k ∧ k ≤ l3.length ∧ ∀ (j : Nat) (x : FO), j < k → l3[j]? = some x → ¬ 40 < x.params.l.length) (fun i => l3.length - (intOf i).toNat)
        case atStart => exact ⟨0, rfl, Nat.zero_le _, fun j x h => by omega⟩
        case round =>
          obtain ⟨k, rfl, hk, hj⟩ := hrel
          have HK := Lib.hid hj
          clear hj
          by_cases hlt : k < l3.length
          · obtain ⟨⟨cl, on, ba, va, ⟨fa, fcc, fl⟩⟩, hx⟩ := get_lt hlt
            obtain ⟨rfl, hb⟩ := HAT3.out (by omega)
            have c0 := (HBW.out.cell (p := ⟨b3, o3 + k * 6 + 5, none⟩) hb).trans ((rows_params HC3.out hx).trans (show _ = some (.slice fa fl.length fcc) from rfl))
            have hf := HF3.out k _ hx
            dsimp only at hf
            have HX := Lib.hid hx
            have HLT := Lib.hid hlt
            clear hx hb
            by_cases hq : (40 : Int) < fl.length
            · obtain rfl : r = true := HY3.out k _ HX.out (by dsimp only; omega)
              go_wp2
              go_ret
              exact ⟨rfl, HBW.out⟩
            · have HQ := Lib.hid hq
              go_wp2
              go_round
              case rel =>
                refine ⟨k + 1, by go_num, HLT.out, fun j x hj hx => ?_⟩
                rcases Nat.lt_or_ge j k with h | h
                · exact HK.out j x h hx
                · obtain rfl : j = k := by omega
                  rw [HX.out] at hx
                  obtain rfl := Option.some.inj hx
                  have := HQ.out
                  dsimp only
                  omega
              case measure => simp [intOf]; have := HLT.out; omega
          · obtain rfl : k = l3.length := by omega
            clear hk hlt
            go_wp2
            go_ret
            have hs := HS.out
            refine ⟨ret_bool (HNO.out (by omega) (fun j x hx => HJ.out j x (List.getElem?_eq_some_iff.1 hx).1 hx) (fun j x hx => HK.out j x (List.getElem?_eq_some_iff.1 hx).1 hx)).symm, HBW.out⟩
end

end Go.Proofs.Ytfnibpkojhgflaa
