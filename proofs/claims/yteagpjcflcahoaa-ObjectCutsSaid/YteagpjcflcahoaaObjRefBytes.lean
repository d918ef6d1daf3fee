/- Contract: the reference's Bytes of an object that may be. Printed by bin/gen_objrefbytes.py. -/
import Derived.Test.YteagpjcflcahoaaObjRefMay2
import Derived.Test.YteagpjcflcahoaaObjRefW
import Derived.Test.YteagpjcflcahoaaMixA
import Derived.Deep.DeepCutAuto
namespace Go.Proofs.Yteagpjcflcahoaa
set_option linter.unusedVariables false
set_option linter.unusedSimpArgs false
open Go.RowKit

def impB (x : Imp) : List Int := nameB x.name ++ wordB x.key
def fixB (f : Fix) : List Int := wordB f.place ++ [f.mod % 256, f.entry % 256]
def OD.bytes (o : OD) : List Int :=
  [79, 49] ++ nameB o.name ++ wordB o.key ++ [(o.imps.length : Int) % 256] ++ o.imps.flatMap impB ++ wordB o.vars ++ wordB o.text.length ++ o.text ++ wordB o.code.length ++ o.code.flatMap wordB ++ [(o.entries.length : Int) % 256] ++ o.entries.flatMap wordB ++ wordB o.fixups.length ++ o.fixups.flatMap fixB

/-- bytes that grow, beside an object. -/
structure ByW (w0 wr : World) (g : Nat) (cs : Array Value) (n : Nat) (B : Value) (xs : List Int) : Prop where
  box : At wr g cs 29
  low : w0.heap.size ≤ g
  own : wr.ownsRow w0.heap.size 5 1 B xs.length (xs.map (Value.int .u8))
  len : xs.length ≤ n
  byte : ∀ x ∈ xs, isByte x
  bel : Below w0.heap.size w0 wr
/-- what an append may touch. -/
def ByG (w0 : World) (g : Nat) : Nat → Prop := fun i => w0.heap.size ≤ i ∧ i ≠ g
variable {w0 wr wz : World} {g n : Nat} {cs : Array Value} {B : Value} {xs : List Int}
theorem o1_byte : ([79, 49] : List Int).length ≤ 1000 ∧ ∀ x ∈ ([79, 49] : List Int), isByte x := ⟨by decide, fun x hx => by simp only [List.mem_cons, List.not_mem_nil, or_false] at hx; rcases hx with rfl | rfl <;> exact ⟨by omega, by omega⟩⟩
theorem by_start (w : World) (cs : Array Value) (l : List Int) (hl : l.length ≤ 1000 ∧ ∀ x ∈ l, isByte x) : ByW w ((w.alloc (.cells cs 29)).alloc (.cells (l.map (Value.int .u8)).toArray 5)) w.heap.size cs l.length (.slice (some ⟨w.heap.size + 1, 0, none⟩) l.length l.length) l := by
  have h := own_lit8 (w.alloc (.cells cs 29)) l hl.1 (B := w.heap.size) (by simp)
  rw [show (w.alloc (.cells cs 29)).heap.size = w.heap.size + 1 by simp] at h
  exact ⟨(At.new w cs 29).old _, Nat.le_refl _, h, Nat.le_refl _, hl.2, bel2 w _ _⟩
theorem ByW.on (h : ByW w0 wr g cs n B xs) (k : Below wr.heap.size wr wz) : ByW w0 wz g cs n B xs :=
  ⟨h.box.bel k, h.low, ownsRow_bel h.own k, h.len, h.byte, bel_then h.bel k⟩
theorem ByW.ke (h : ByW w0 wr g cs n B xs) (hg : wr.grownBy wz B.ownBlock) : Ke (ByG w0 g) wr wz :=
  (Ke.ofGrown hg).mono (fun i _ e => ⟨(h.own.lt i e).1, fun e' => ownsRow_no h.own h.box (by decide) (e' ▸ e)⟩)
theorem ByW.grow (h : ByW w0 wr g cs n B xs) {B' : Value} {m : Nat} {ys : List Int} (own : wz.ownsRow w0.heap.size 5 1 B' (xs.length + m) (xs.map (Value.int .u8) ++ ys.map (Value.int .u8))) (hg : wr.grownBy wz B.ownBlock) (hm : ys.length = m) (hy : ∀ x ∈ ys, isByte x) : ByW w0 wz g cs (n + m) B' (xs ++ ys) := by
  subst hm
  rw [← List.map_append, ← List.length_append] at own
  exact ⟨h.box.ke (h.ke hg) (fun e => e.2 rfl), h.low, own, by rw [List.length_append]; have := h.len; omega, fun x hx => (List.mem_append.1 hx).elim (h.byte x) (hy x), bel_own h.bel h.own hg⟩
def ByG2 (w0 : World) (g g2 : Nat) : Nat → Prop := fun i => w0.heap.size ≤ i ∧ i ≠ g ∧ i ≠ g2
theorem ByW.ke2 (h : ByW w0 wr g cs n B xs) {g2 : Nat} {cs2 : Array Value} {t2 : TypeId} (hF : At wr g2 cs2 t2) (ht : 5 ≠ t2) (hg : wr.grownBy wz B.ownBlock) : Ke (ByG2 w0 g g2) wr wz :=
  (Ke.ofGrown hg).mono (fun i _ e => ⟨(h.own.lt i e).1, fun e' => ownsRow_no h.own h.box (by decide) (e' ▸ e), fun e' => ownsRow_no h.own hF ht (e' ▸ e)⟩)
theorem ByW.cell2 (h : ByW w0 wr g cs n B xs) {g2 : Nat} {cs2 : Array Value} {t2 : TypeId} (hF : At wr g2 cs2 t2) (j : Nat) {v : Value} (hv : cs2[j]? = some v) (x : Later (Ke (ByG2 w0 g g2) wr)) : x.w.cell? ⟨g2, j, none⟩ = some v := (hF.later (fun e => e.2.2 rfl) x).cell j |>.trans hv
theorem ByW.room (h : ByW w0 wr g cs n B xs) {m : Nat} (hm : n + m ≤ 1000000) : (xs.length + m) * 1 ≤ 140737488355328 := by have := h.len; omega
theorem ByW.room' (h : ByW w0 wr g cs n B xs) {m : Nat} (hm : n + m ≤ 1000000) : xs.length + m ≤ 140737488355328 := by have := h.len; omega
theorem ByW.new (h : ByW w0 wr g cs n B xs) : ¬ (B.ownBlock = some wr.heap.size) := fun e => absurd (h.own.lt _ e).2 (Nat.lt_irrefl _)
theorem ByW.more (h : ByW w0 wr g cs n B xs) {n' : Nat} (hn : n ≤ n') : ByW w0 wr g cs n' B xs := ⟨h.box, h.low, h.own, Nat.le_trans h.len hn, h.byte, h.bel⟩
theorem ByW.cell (h : ByW w0 wr g cs n B xs) (j : Nat) {v : Value} (hv : cs[j]? = some v) (x : Later (Ke (ByG w0 g) wr)) : x.w.cell? ⟨g, j, none⟩ = some v := (h.box.later (fun e => e.2 rfl) x).cell j |>.trans hv
theorem ByW.old (h : ByW w0 wr g cs n B xs) {p : Addr} {v : Value} (hp : p.block < w0.heap.size) (hv : w0.cell? p = some v) (x : Later (Ke (ByG w0 g) wr)) : x.w.cell? p = some v :=
  ke_cell x.ok (Nat.lt_of_lt_of_le hp h.bel.size) (fun e => Nat.not_lt.2 e.1 hp) ((h.bel.cell hp).trans hv)


theorem take_flat {α : Type} {l : List α} {k : Nat} {x : α} (h : l[k]? = some x) (f : α → List Int) : (l.take (k + 1)).flatMap f = (l.take k).flatMap f ++ f x := by
  rw [take_get h, List.flatMap_append, List.flatMap_cons, List.flatMap_nil, List.append_nil]
theorem take_all {α : Type} {l : List α} {k : Nat} (h : l.length ≤ k) (f : α → List Int) : (l.take k).flatMap f = l.flatMap f := by rw [List.take_of_length_le h]
theorem rd_at8 {w : World} {g : Nat} {l : List Int} (h : At w g (l.map (Value.int .u8)).toArray 5) (hb : ∀ x ∈ l, isByte x) (hl : l.length ≤ 1000) : RdI .u8 w (some ⟨g, 0, none⟩) l.length l :=
  ⟨⟨⟨g, 0, fun _ => ⟨rfl, h.lt⟩, fun j u hj => by rw [Nat.zero_add, h.cell]; simpa using hj⟩, fun h => (by cases h), Nat.le_refl _, by unfold maxLen; omega⟩, fun x hx => bd_u8' (hb x hx)⟩
theorem fix_cells {w : World} {b o : Nat} {l : List Fix} (h : RowAt fixD w b o l) {i : Nat} {x : Fix} (hx : l[i]? = some x) (q : Nat) (y : Value) (hy : ([.int .i64 x.place, .int .i64 x.mod, .int .i64 x.entry] : List Value)[q]? = some y) : w.cell? ⟨b, o + i * 3 + q, none⟩ = some y := h i x hx q y hy

/-- what an object that may be is bound to. -/
structure Fits (o : OD) : Prop where
  name : o.name.size ≤ 15
  nimps : o.imps.length ≤ 12
  imps : ∀ x ∈ o.imps, x.name.size ≤ 15
  vars : 0 ≤ o.vars ∧ o.vars ≤ 262144
  text : o.text.length ≤ 8192
  code : o.code.length ≤ 16384
  nent : o.entries.length ≤ 201
  ent : ∀ x ∈ o.entries, 0 ≤ x ∧ x ≤ 16384
  nfix : o.fixups.length ≤ 8192
  fix : ∀ f ∈ o.fixups, (0 ≤ f.place ∧ f.place ≤ 16384) ∧ (0 ≤ f.mod ∧ f.mod ≤ 12) ∧ (0 ≤ f.entry ∧ f.entry ≤ 200)
theorem impsOk_all {name : ByteArray} : ∀ (seen : List ByteArray) (l : List Imp), impsOk name seen l = true → ∀ x ∈ l, mayName x.name = true
  | _, [], _, x, hx => by cases hx
  | seen, y :: r, h, x, hx => by
    unfold impsOk at h
    simp only [Bool.and_eq_true] at h
    rcases List.mem_cons.1 hx with rfl | hx
    · exact h.1.1.1
    · exact impsOk_all _ r h.2 x hx
theorem mayName_le {s : ByteArray} (h : mayName s = true) : 1 ≤ s.size ∧ s.size ≤ 15 := by
  unfold mayName at h
  simp only [Bool.and_eq_true, decide_eq_true_eq] at h
  exact h.2
theorem fixesOk_all {n m : Nat} : ∀ (p : Option Int) (l : List Fix), fixesOk n m p l = true → ∀ f ∈ l, (0 ≤ f.place ∧ f.place < n) ∧ (0 ≤ f.mod ∧ f.mod ≤ m) ∧ (0 ≤ f.entry ∧ f.entry ≤ 200)
  | _, [], _, f, hf => by cases hf
  | p, y :: r, h, f, hf => by
    unfold fixesOk at h
    simp only [Bool.and_eq_true] at h
    rcases List.mem_cons.1 hf with rfl | hf
    · have := h.1
      unfold fixOk at this
      simp only [decide_eq_true_eq] at this
      omega
    · exact fixesOk_all _ r h.2 f hf
theorem Fits.of {o : OD} (h : mayObj o = true) : Fits o := by
  unfold mayObj sizesOk countsOk mayImps at h
  simp only [Bool.and_eq_true, decide_eq_true_eq] at h
  obtain ⟨⟨⟨⟨⟨⟨h1, h2⟩, h3⟩, h4⟩, h5⟩, h6⟩, h7⟩ := h
  refine ⟨(mayName_le h2).2, h3, fun x hx => (mayName_le (impsOk_all _ _ h1 x hx)).2, ⟨h4.1, h4.2.1⟩, h4.2.2.2.1, h5.1, h5.2.2.1, fun x hx => ?_, h5.2.2.2, fun f hf => ?_⟩
  · have := List.all_eq_true.1 h6 x hx
    unfold inN at this
    simp only [decide_eq_true_eq] at this
    omega
  · have := fixesOk_all _ _ h7 f hf
    omega


set_option maxRecDepth 100000 in
set_option maxHeartbeats 16000000 in
theorem refBytes_walk (x : Obj) (w : World) (h : x.Rd w) (hm : mayObj x.d = true) :
    Calls Try.prog 13 #[x.val] w fun e w' => ∃ a c, e = .returned (.slice a x.d.bytes.length c) ∧ RdI .u8 w' a c x.d.bytes ∧ Below w.heap.size w w' := by
  have HR := Lib.hid h
  have HF := Lib.hid (Fits.of hm)
  clear h hm
  obtain ⟨nm, ky, ⟨a2, c2, l2⟩, vs, ⟨a4, c4, l4⟩, ⟨a5, c5, l5⟩, ⟨a6, c6, l6⟩, ⟨a7, c7, l7⟩⟩ := x
  dsimp only [Obj.d] at HF
  show Calls _ _ #[.agg #[.string nm, .int .u32 ky, .slice a2 l2.length c2, .int .i64 vs, .slice a4 l4.length c4, .slice a5 l5.length c5, .slice a6 l6.length c6, .slice a7 l7.length c7]] w fun e w' => ∃ a c, e = .returned (.slice a (OD.bytes ⟨nm, ky, l2, vs, l4, l5, l6, l7⟩).length c) ∧ RdI .u8 w' a c (OD.bytes ⟨nm, ky, l2, vs, l4, l5, l6, l7⟩) ∧ _
  have hn15 : nm.size ≤ 15 := HF.out.name
  have HN15 := Lib.hid hn15
  have HN6 : Hid (nm.size ≤ 1000000) := Lib.hid (by omega)
  have HNL : Hid ((nameB nm).length ≤ 16) := Lib.hid (by rw [nameB_len]; omega)
  have HKY : Hid (0 ≤ ky ∧ ky < 4294967296) := Lib.hid HR.out.key
  have v0 : 0 ≤ vs := HF.out.vars.1
  have v1 : vs ≤ 262144 := HF.out.vars.2
  have HVS : Hid (0 ≤ vs ∧ vs < 4294967296) := Lib.hid (by omega)
  have t1 : (l4.length : Int) ≤ 8192 := by have := HF.out.text; dsimp only at this; omega
  have HTX : Hid (0 ≤ (l4.length : Int) ∧ (l4.length : Int) < 4294967296) := Lib.hid (by omega)
  have HT4 : Hid (l4.length ≤ 8192) := Lib.hid HF.out.text
  have u1 : (l5.length : Int) ≤ 16384 := by have := HF.out.code; dsimp only at this; omega
  have HCD : Hid (0 ≤ (l5.length : Int) ∧ (l5.length : Int) < 4294967296) := Lib.hid (by omega)
  have z1 : (l7.length : Int) ≤ 8192 := by have := HF.out.nfix; dsimp only at this; omega
  have HFX : Hid (0 ≤ (l7.length : Int) ∧ (l7.length : Int) < 4294967296) := Lib.hid (by omega)
  have i2 := HR.out.imps.len
  have i6 := HR.out.entries.len
  dsimp only at i2 i6
  clear hn15
  obtain ⟨g, hg⟩ : ∃ g, g = w.heap.size := ⟨_, rfl⟩
  have HG := Lib.hid hg
  clear hg
  have f1 : True := trivial
  have f2 : True := trivial
  go_enter Try.func13, Try.ntmps13
  go_wp2_with (first | (have _f := f1; refine (refName_walk nm _ HN6.out).mono ?_; rintro e w1 ⟨an, cn, rfl, hr, hb⟩; have HR1 := Lib.hid hr; have HY1 : Hid (ByW w w1 g #[.string nm, .int .u32 ky, .slice a2 l2.length c2, .int .i64 vs, .slice a4 l4.length c4, .slice a5 l5.length c5, .slice a6 l6.length c6, .slice a7 l7.length c7] 2 (.slice (some ⟨w.heap.size + 1, 0, none⟩) 2 2) [79, 49]) := Lib.hid (by rw [HG.out]; exact (by_start w #[.string nm, .int .u32 ky, .slice a2 l2.length c2, .int .i64 vs, .slice a4 l4.length c4, .slice a5 l5.length c5, .slice a6 l6.length c6, .slice a7 l7.length c7] [79, 49] o1_byte).on hb); clear hr hb; clear _f f1) | (have _f := f2; at_builtin; refine append_at rfl (.tmp 9) (.tmp 12) et_u8 rfl w.heap.size rfl HY1.out.own rfl HR1.out.row (by rw [List.length_map, Nat.mul_one]; try rfl) (ints_one .u8 _) (HY1.out.room (by have := HNL.out; omega)) (HY1.out.room' (by have := HNL.out; omega)) HY1.out.bel.size ?_; intro v2 w2 own2 gr2 _; have HY2 : Hid (ByW w w2 g #[.string nm, .int .u32 ky, .slice a2 l2.length c2, .int .i64 vs, .slice a4 l4.length c4, .slice a5 l5.length c5, .slice a6 l6.length c6, .slice a7 l7.length c7] 18 v2 ([79, 49] ++ nameB nm)) := Lib.hid ((HY1.out.grow own2 gr2 rfl (nameB_byte nm)).more (by have := HNL.out; omega)); clear own2 gr2; clear _f f2))
  rw [← HG.out]
  clear HR1 HY1
  go_cut [3] (fun b wr => ByW w wr g #[.string nm, .int .u32 ky, .slice a2 l2.length c2, .int .i64 vs, .slice a4 l4.length c4, .slice a5 l5.length c5, .slice a6 l6.length c6, .slice a7 l7.length c7] 23 b (([79, 49] ++ nameB nm) ++ wordB ky ++ [(l2.length : Int) % 256]))
  case first =>
    refine wp_region_rest (ByG w g) 12 (by kernel_rfl) rfl ?_
    intro wd hbd
    have HYd := Lib.hid (HY2.out.on hbd)
    have lc1 := fun x => HYd.out.cell (v := .int .u32 ky) 1 rfl x
    have lc2 := fun x => HYd.out.cell (v := .slice a2 l2.length c2) 2 rfl x
    clear hbd
    refine rest_step [0, 1, 2, 5, 6, 7, 8] [3, 9] (by kernel_rfl) (fun _ _ d _ _ h => by cases d <;> exact h) (by kernel_rfl) rfl (by kernel_rfl) (by decide) rfl ?_
    simp only [pickOps, nth, Act.put, List.setIfInBounds_toArray, List.set_cons_succ, List.set_cons_zero]
    (repeat (go_big_quiet_step (fail)))
    refine wpQuiet_nil ?_
    clear lc1 lc2
    refine all2 ?_ ?_
    · skip
      simp only [pickOps, nth, Act.put, List.setIfInBounds_toArray, List.set_cons_succ, List.set_cons_zero]
      go_wp2_with (refine (refWord_walk ky _ HKY.out).mono ?_; rintro e w12 ⟨aw12, cw12, rfl, hr, hb⟩; have HR12 := Lib.hid hr; have HY12 := Lib.hid (HYd.out.on hb); have HK12 := Lib.hid (Ke.below (ByG w g) hb); clear hr hb)
      refine ⟨HK12.out, rest_step [] [4, 9] (by kernel_rfl) (fun _ _ d _ _ h => by cases d <;> exact h) (by kernel_rfl) rfl (by kernel_rfl) (by decide) rfl ?_⟩
      simp only [pickOps, nth, Act.put, List.setIfInBounds_toArray, List.set_cons_succ, List.set_cons_zero]
      (repeat (go_big_quiet_step (fail)))
      refine wpQuiet_nil ?_
      refine all2 ?_ ?_
      · skip
        simp only [pickOps, nth, Act.put, List.setIfInBounds_toArray, List.set_cons_succ, List.set_cons_zero]
        refine append_at rfl (.tmp 14) (.tmp 17) et_u8 rfl w.heap.size rfl HY12.out.own rfl HR12.out.row (by rw [List.length_map, Nat.mul_one]; try rfl) (ints_one .u8 _) (HY12.out.room (by decide)) (HY12.out.room' (by decide)) HY12.out.bel.size ?_
        intro v14 w14 own14 gr14 _
        have HY14 := Lib.hid ((HY12.out.grow own14 gr14 rfl (wordB_byte _)))
        have HK14 := Lib.hid (HY12.out.ke gr14)
        clear own14 gr14
        refine ⟨HK14.out, rest_step [] [9] (by kernel_rfl) (fun _ _ d _ _ h => by cases d <;> exact h) (by kernel_rfl) rfl (by kernel_rfl) (by decide) rfl ?_⟩
        simp only [pickOps, nth, Act.put, List.setIfInBounds_toArray, List.set_cons_succ, List.set_cons_zero]
        (repeat (go_big_quiet_step (fail)))
        refine wpQuiet_nil ?_
        refine all1 ?_
        simp only [pickOps, nth, Act.put, List.setIfInBounds_toArray, List.set_cons_succ, List.set_cons_zero]
        go_wp2_with fail
        have HB15 := Lib.hid (bel1 w14 (.cells (([(l2.length : Int) % 256] : List Int).map (Value.int .u8)).toArray 5))
        have HL15 := Lib.hid (At.new w14 (([(l2.length : Int) % 256] : List Int).map (Value.int .u8)).toArray 5)
        have HY15 := Lib.hid (HY14.out.on HB15.out)
        obtain ⟨w15, hw15⟩ : ∃ W, W = w14.alloc (.cells (([(l2.length : Int) % 256] : List Int).map (Value.int .u8)).toArray 5) := ⟨_, rfl⟩
        rw [← hw15] at HY15
        rw [← hw15] at HL15
        rw [← hw15] at HB15
        (have hw' := hw15; simp only [List.map_cons, List.map_nil] at hw'; rw [← hw']; clear hw')
        clear hw15
        refine ⟨(Ke.below (ByG w g) HB15.out), rest_step [] [10] (by kernel_rfl) (fun _ _ d _ _ h => by cases d <;> exact h) (by kernel_rfl) rfl (by kernel_rfl) (by decide) rfl ?_⟩
        simp only [pickOps, nth, Act.put, List.setIfInBounds_toArray, List.set_cons_succ, List.set_cons_zero]
        (repeat (go_big_quiet_step (fail)))
        refine wpQuiet_nil ?_
        refine all1 ?_
        simp only [pickOps, nth, Act.put, List.setIfInBounds_toArray, List.set_cons_succ, List.set_cons_zero]
        refine append_at rfl (.tmp 18) (.tmp 23) et_u8 rfl w.heap.size rfl HY15.out.own rfl (rd_at8 HL15.out (fun x hx => by rw [List.mem_singleton] at hx; subst hx; exact ⟨by omega, by omega⟩) (by simp)).row (by rw [List.length_map, Nat.mul_one]; try rfl) (ints_one .u8 _) (HY15.out.room (by decide)) (HY15.out.room' (by decide)) HY15.out.bel.size ?_
        intro v17 w17 own17 gr17 _
        have HY17 := Lib.hid ((HY15.out.grow own17 gr17 rfl (fun x hx => by rw [List.mem_singleton] at hx; subst hx; exact ⟨by omega, by omega⟩)))
        have HK17 := Lib.hid (HY15.out.ke gr17)
        clear own17 gr17
        refine ⟨HK17.out, rest_end [11] (by kernel_rfl) (fun _ _ d _ _ h => by cases d <;> exact h) (by kernel_rfl) (by kernel_rfl) rfl ?_⟩
        simp only [pickOps, nth, Act.put, List.setIfInBounds_toArray, List.set_cons_succ, List.set_cons_zero]
        (repeat (go_big_quiet_step (fail)))
        refine wpQuiet_nil ?_
        go_wp2_with fail
        go_meet
        exact HY17.out
      · skip
        simp only [pickOps, nth, Act.put, List.setIfInBounds_toArray, List.set_cons_succ, List.set_cons_zero]
        go_wp2_with fail
        have HB18 := Lib.hid (bel1 w12 (.cells (([(l2.length : Int) % 256] : List Int).map (Value.int .u8)).toArray 5))
        have HL18 := Lib.hid (At.new w12 (([(l2.length : Int) % 256] : List Int).map (Value.int .u8)).toArray 5)
        have HN18 := Lib.hid HY12.out.new
        have HY18 := Lib.hid (HY12.out.on HB18.out)
        have HR18 := Lib.hid (HR12.out.below HB18.out (Nat.le_refl _))
        obtain ⟨w18, hw18⟩ : ∃ W, W = w12.alloc (.cells (([(l2.length : Int) % 256] : List Int).map (Value.int .u8)).toArray 5) := ⟨_, rfl⟩
        rw [← hw18] at HY18
        rw [← hw18] at HL18
        rw [← hw18] at HB18
        rw [← hw18] at HR18
        (have hw' := hw18; simp only [List.map_cons, List.map_nil] at hw'; rw [← hw']; clear hw')
        clear hw18
        refine ⟨(Ke.below (ByG w g) HB18.out), rest_step [] [4] (by kernel_rfl) (fun _ _ d _ _ h => by cases d <;> exact h) (by kernel_rfl) rfl (by kernel_rfl) (by decide) rfl ?_⟩
        simp only [pickOps, nth, Act.put, List.setIfInBounds_toArray, List.set_cons_succ, List.set_cons_zero]
        (repeat (go_big_quiet_step (fail)))
        refine wpQuiet_nil ?_
        refine all1 ?_
        simp only [pickOps, nth, Act.put, List.setIfInBounds_toArray, List.set_cons_succ, List.set_cons_zero]
        refine append_at rfl (.tmp 14) (.tmp 17) et_u8 rfl w.heap.size rfl HY18.out.own rfl HR18.out.row (by rw [List.length_map, Nat.mul_one]; try rfl) (ints_one .u8 _) (HY18.out.room (by decide)) (HY18.out.room' (by decide)) HY18.out.bel.size ?_
        intro v20 w20 own20 gr20 _
        have HY20 := Lib.hid ((HY18.out.grow own20 gr20 rfl (wordB_byte _)))
        have HK20 := Lib.hid (HY18.out.ke gr20)
        have HL19 := Lib.hid (HL18.out.ke (Ke.ofGrown gr20) HN18.out)
        clear own20 gr20
        refine ⟨HK20.out, rest_step [] [10] (by kernel_rfl) (fun _ _ d _ _ h => by cases d <;> exact h) (by kernel_rfl) rfl (by kernel_rfl) (by decide) rfl ?_⟩
        simp only [pickOps, nth, Act.put, List.setIfInBounds_toArray, List.set_cons_succ, List.set_cons_zero]
        (repeat (go_big_quiet_step (fail)))
        refine wpQuiet_nil ?_
        refine all1 ?_
        simp only [pickOps, nth, Act.put, List.setIfInBounds_toArray, List.set_cons_succ, List.set_cons_zero]
        refine append_at rfl (.tmp 18) (.tmp 23) et_u8 rfl w.heap.size rfl HY20.out.own rfl (rd_at8 HL19.out (fun x hx => by rw [List.mem_singleton] at hx; subst hx; exact ⟨by omega, by omega⟩) (by simp)).row (by rw [List.length_map, Nat.mul_one]; try rfl) (ints_one .u8 _) (HY20.out.room (by decide)) (HY20.out.room' (by decide)) HY20.out.bel.size ?_
        intro v22 w22 own22 gr22 _
        have HY22 := Lib.hid ((HY20.out.grow own22 gr22 rfl (fun x hx => by rw [List.mem_singleton] at hx; subst hx; exact ⟨by omega, by omega⟩)))
        have HK22 := Lib.hid (HY20.out.ke gr22)
        clear own22 gr22
        refine ⟨HK22.out, rest_end [11] (by kernel_rfl) (fun _ _ d _ _ h => by cases d <;> exact h) (by kernel_rfl) (by kernel_rfl) rfl ?_⟩
        simp only [pickOps, nth, Act.put, List.setIfInBounds_toArray, List.set_cons_succ, List.set_cons_zero]
        (repeat (go_big_quiet_step (fail)))
        refine wpQuiet_nil ?_
        go_wp2_with fail
        go_meet
        exact HY22.out
    · skip
      simp only [pickOps, nth, Act.put, List.setIfInBounds_toArray, List.set_cons_succ, List.set_cons_zero]
      go_wp2_with fail
      have HB23 := Lib.hid (bel1 wd (.cells (([(l2.length : Int) % 256] : List Int).map (Value.int .u8)).toArray 5))
      have HL23 := Lib.hid (At.new wd (([(l2.length : Int) % 256] : List Int).map (Value.int .u8)).toArray 5)
      have HN23 := Lib.hid HYd.out.new
      have HY23 := Lib.hid (HYd.out.on HB23.out)
      obtain ⟨w23, hw23⟩ : ∃ W, W = wd.alloc (.cells (([(l2.length : Int) % 256] : List Int).map (Value.int .u8)).toArray 5) := ⟨_, rfl⟩
      rw [← hw23] at HY23
      rw [← hw23] at HL23
      rw [← hw23] at HB23
      (have hw' := hw23; simp only [List.map_cons, List.map_nil] at hw'; rw [← hw']; clear hw')
      clear hw23
      refine ⟨(Ke.below (ByG w g) HB23.out), rest_step [] [3] (by kernel_rfl) (fun _ _ d _ _ h => by cases d <;> exact h) (by kernel_rfl) rfl (by kernel_rfl) (by decide) rfl ?_⟩
      simp only [pickOps, nth, Act.put, List.setIfInBounds_toArray, List.set_cons_succ, List.set_cons_zero]
      (repeat (go_big_quiet_step (fail)))
      refine wpQuiet_nil ?_
      refine all1 ?_
      simp only [pickOps, nth, Act.put, List.setIfInBounds_toArray, List.set_cons_succ, List.set_cons_zero]
      go_wp2_with (refine (refWord_walk ky _ HKY.out).mono ?_; rintro e w25 ⟨aw25, cw25, rfl, hr, hb⟩; have HR25 := Lib.hid hr; have HY25 := Lib.hid (HY23.out.on hb); have HK25 := Lib.hid (Ke.below (ByG w g) hb); have HL24 := Lib.hid (HL23.out.bel hb); clear hr hb)
      refine ⟨HK25.out, rest_step [] [4] (by kernel_rfl) (fun _ _ d _ _ h => by cases d <;> exact h) (by kernel_rfl) rfl (by kernel_rfl) (by decide) rfl ?_⟩
      simp only [pickOps, nth, Act.put, List.setIfInBounds_toArray, List.set_cons_succ, List.set_cons_zero]
      (repeat (go_big_quiet_step (fail)))
      refine wpQuiet_nil ?_
      refine all1 ?_
      simp only [pickOps, nth, Act.put, List.setIfInBounds_toArray, List.set_cons_succ, List.set_cons_zero]
      refine append_at rfl (.tmp 14) (.tmp 17) et_u8 rfl w.heap.size rfl HY25.out.own rfl HR25.out.row (by rw [List.length_map, Nat.mul_one]; try rfl) (ints_one .u8 _) (HY25.out.room (by decide)) (HY25.out.room' (by decide)) HY25.out.bel.size ?_
      intro v27 w27 own27 gr27 _
      have HY27 := Lib.hid ((HY25.out.grow own27 gr27 rfl (wordB_byte _)))
      have HK27 := Lib.hid (HY25.out.ke gr27)
      have HL26 := Lib.hid (HL24.out.ke (Ke.ofGrown gr27) HN23.out)
      clear own27 gr27
      refine ⟨HK27.out, rest_step [] [10] (by kernel_rfl) (fun _ _ d _ _ h => by cases d <;> exact h) (by kernel_rfl) rfl (by kernel_rfl) (by decide) rfl ?_⟩
      simp only [pickOps, nth, Act.put, List.setIfInBounds_toArray, List.set_cons_succ, List.set_cons_zero]
      (repeat (go_big_quiet_step (fail)))
      refine wpQuiet_nil ?_
      refine all1 ?_
      simp only [pickOps, nth, Act.put, List.setIfInBounds_toArray, List.set_cons_succ, List.set_cons_zero]
      refine append_at rfl (.tmp 18) (.tmp 23) et_u8 rfl w.heap.size rfl HY27.out.own rfl (rd_at8 HL26.out (fun x hx => by rw [List.mem_singleton] at hx; subst hx; exact ⟨by omega, by omega⟩) (by simp)).row (by rw [List.length_map, Nat.mul_one]; try rfl) (ints_one .u8 _) (HY27.out.room (by decide)) (HY27.out.room' (by decide)) HY27.out.bel.size ?_
      intro v29 w29 own29 gr29 _
      have HY29 := Lib.hid ((HY27.out.grow own29 gr29 rfl (fun x hx => by rw [List.mem_singleton] at hx; subst hx; exact ⟨by omega, by omega⟩)))
      have HK29 := Lib.hid (HY27.out.ke gr29)
      clear own29 gr29
      refine ⟨HK29.out, rest_end [11] (by kernel_rfl) (fun _ _ d _ _ h => by cases d <;> exact h) (by kernel_rfl) (by kernel_rfl) rfl ?_⟩
      simp only [pickOps, nth, Act.put, List.setIfInBounds_toArray, List.set_cons_succ, List.set_cons_zero]
      (repeat (go_big_quiet_step (fail)))
      refine wpQuiet_nil ?_
      go_wp2_with fail
      go_meet
      exact HY29.out
  case rest =>
    have HY3 := Lib.hid hcut
    clear hcut HY2
    obtain ⟨b2, o2, hat, hcell⟩ := HR.out.imps.at'
    have HAT2 := Lib.hid hat
    have HCELL2 := Lib.hid hcell
    clear hat hcell
    dsimp only at HAT2 HCELL2
    obtain ⟨b5, o5, hat, hcell⟩ := HR.out.code.at'
    have HAT5 := Lib.hid hat
    have HCELL5 := Lib.hid hcell
    clear hat hcell
    dsimp only at HAT5 HCELL5
    obtain ⟨b6, o6, hat, hcell⟩ := HR.out.entries.at'
    have HAT6 := Lib.hid hat
    have HCELL6 := Lib.hid hcell
    clear hat hcell
    dsimp only at HAT6 HCELL6
    obtain ⟨b7, o7, hat, hcell⟩ := HR.out.fixups.at'
    have HAT7 := Lib.hid hat
    have HCELL7 := Lib.hid hcell
    clear hat hcell
    dsimp only at HAT7 HCELL7
    have HTXT : Hid (RdI .u8 w a4 c4 l4) := Lib.hid HR.out.text.rdI
    have HSN := Lib.hid (fun w' : World => Sep.nil w')
    go_wp2
    (skip)
    go_loopw [3, 4] (fun b i wr => ∃ k : Nat, i = .int .i64 k ∧ k ≤ l2.length ∧ ByW w wr g #[.string nm, .int .u32 ky, .slice a2 l2.length c2, .int .i64 vs, .slice a4 l4.length c4, .slice a5 l5.length c5, .slice a6 l6.length c6, .slice a7 l7.length c7] (23 + 20 * k) b ((([79, 49] ++ nameB nm) ++ wordB ky ++ [(l2.length : Int) % 256]) ++ (l2.take k).flatMap impB)) (fun _ i _ => l2.length - (intOf i).toNat)
    case atStart => exact ⟨0, rfl, Nat.zero_le _, by rw [List.take_zero, List.flatMap_nil, List.append_nil]; exact HY3.out⟩
    case round =>
      obtain ⟨k, rfl, hk, hy⟩ := hrel
      have HYr := Lib.hid hy
      have hc : wr.cell? ⟨g, 2, none⟩ = some (.slice a2 l2.length c2) := (hy.box.cell 2).trans rfl
      clear hy
      by_cases hlt : k < l2.length
      · obtain ⟨⟨xn, xk⟩, hx⟩ := get_lt hlt
        obtain ⟨rfl, hb⟩ := HAT2.out (by omega)
        have HIC := Lib.hid (imp_cells HCELL2.out hx)
        have HX := Lib.hid hx
        have HLT := Lib.hid hlt
        have HBB := Lib.hid hb
        have hnl : xn.size ≤ 15 := HF.out.imps _ (List.mem_of_getElem? hx)
        have HXN : Hid (xn.size ≤ 1000000) := Lib.hid (by omega)
        have HXL : Hid ((nameB xn).length ≤ 16) := Lib.hid (by rw [nameB_len]; omega)
        have HXK : Hid (0 ≤ xk ∧ xk < 4294967296) := Lib.hid (HR.out.imps.all _ (List.mem_of_getElem? hx)).2
        have HK12 : Hid (k < 12) := Lib.hid (by have := HF.out.nimps; dsimp only at this; omega)
        clear hx hb hnl
        go_wp2
        clear hc
        refine wp_region_mixK (ByG w g) [([0, 1, 2, 3, 4, 5, 6, 9, 10, 11, 12, 13, 14], 7), ([], 8), ([], 15), ([], 16)] [17] (by kernel_rfl) (by kernel_rfl) (fun _ _ d _ _ h => by cases d <;> exact h) ?_
        intro wd hbd
        have HYd := Lib.hid (HYr.out.on hbd)
        have lc2 := fun x => HYd.out.cell (v := .slice (some ⟨b2, o2, none⟩) l2.length c2) 2 rfl x
        have lr0 := fun x => HYd.out.old (p := ⟨b2, o2 + k * 2, none⟩) HBB.out HIC.out.1 x
        have lr1 := fun x => HYd.out.old (p := ⟨b2, o2 + k * 2 + 1, none⟩) HBB.out HIC.out.2 x
        clear hbd
        refine mixK_step ?_
        simp only [pickOps, nth, Act.put, List.setIfInBounds_toArray, List.set_cons_succ, List.set_cons_zero]
        (repeat (go_big_quiet_step (fail)))
        refine wpQuiet_nil ?_
        clear lc2 lr0 lr1
        go_wp2_with (refine (refName_walk xn _ HXN.out).mono ?_; rintro e w30 ⟨aw30, cw30, rfl, hr, hb⟩; have HR30 := Lib.hid hr; have HY30 := Lib.hid (HYd.out.on hb); have HK30 := Lib.hid (Ke.below (ByG w g) hb); clear hr hb)
        refine ⟨HK30.out, mixK_step ?_⟩
        simp only [pickOps, nth, Act.put, List.setIfInBounds_toArray, List.set_cons_succ, List.set_cons_zero]
        (repeat (go_big_quiet_step (fail)))
        refine wpQuiet_nil ?_
        refine append_at rfl (.tmp 32) (.tmp 39) et_u8 rfl w.heap.size rfl HY30.out.own rfl HR30.out.row (by rw [List.length_map, Nat.mul_one]; try rfl) (ints_one .u8 _) (HY30.out.room (by have := HXL.out; have := HK12.out; omega)) (HY30.out.room' (by have := HXL.out; have := HK12.out; omega)) HY30.out.bel.size ?_
        intro v31 w31 own31 gr31 _
        have HY31 := Lib.hid ((HY30.out.grow own31 gr31 rfl (nameB_byte xn)).more (show 23 + 20 * k + (nameB xn).length ≤ 23 + 20 * k + 16 by have := HXL.out; omega))
        have HK31 := Lib.hid (HY30.out.ke gr31)
        clear own31 gr31
        refine ⟨HK31.out, mixK_step ?_⟩
        simp only [pickOps, nth, Act.put, List.setIfInBounds_toArray, List.set_cons_succ, List.set_cons_zero]
        (repeat (go_big_quiet_step (fail)))
        refine wpQuiet_nil ?_
        go_wp2_with (refine (refWord_walk xk _ HXK.out).mono ?_; rintro e w32 ⟨aw32, cw32, rfl, hr, hb⟩; have HR32 := Lib.hid hr; have HY32 := Lib.hid (HY31.out.on hb); have HK32 := Lib.hid (Ke.below (ByG w g) hb); clear hr hb)
        refine ⟨HK32.out, mixK_step ?_⟩
        simp only [pickOps, nth, Act.put, List.setIfInBounds_toArray, List.set_cons_succ, List.set_cons_zero]
        (repeat (go_big_quiet_step (fail)))
        refine wpQuiet_nil ?_
        refine append_at rfl (.tmp 40) (.tmp 47) et_u8 rfl w.heap.size rfl HY32.out.own rfl HR32.out.row (by rw [List.length_map, Nat.mul_one]; try rfl) (ints_one .u8 _) (HY32.out.room (by have := HK12.out; omega)) (HY32.out.room' (by have := HK12.out; omega)) HY32.out.bel.size ?_
        intro v33 w33 own33 gr33 _
        have HY33 := Lib.hid ((HY32.out.grow own33 gr33 rfl (wordB_byte _)))
        have HK33 := Lib.hid (HY32.out.ke gr33)
        clear own33 gr33
        refine ⟨HK33.out, mixK_end ?_⟩
        simp only [pickOps, nth, Act.put, List.setIfInBounds_toArray, List.set_cons_succ, List.set_cons_zero]
        (repeat (go_big_quiet_step (fail)))
        refine wpQuiet_nil ?_
        go_wp2
        go_roundw
        case rel =>
          refine ⟨k + 1, by go_num, HLT.out, ?_⟩
          rw [show ((([79, 49] ++ nameB nm) ++ wordB ky ++ [(l2.length : Int) % 256]) ++ (l2.take (k + 1)).flatMap impB) = ((([79, 49] ++ nameB nm) ++ wordB ky ++ [(l2.length : Int) % 256]) ++ (l2.take k).flatMap impB) ++ nameB xn ++ wordB xk by rw [take_flat HX.out]; unfold impB; simp only [List.append_assoc]]
          exact HY33.out.more (by omega)
        case measure => simp [intOf]; have := HLT.out; omega
      · have h4 := HYr.out
        rw [take_all (by omega)] at h4
        have HY4 := Lib.hid (h4.more (show 23 + 20 * k ≤ 263 by have := HF.out.nimps; dsimp only at this; omega))
        clear h4 HYr
        go_wp2
        clear hc hlt hk
        refine wp_region_mixK (ByG w g) [([0, 1, 2, 3, 6, 7, 8, 9], 4), ([], 5), ([], 10), ([], 11)] [12] (by kernel_rfl) (by kernel_rfl) (fun _ _ d _ _ h => by cases d <;> exact h) ?_
        intro wd hbd
        have HYd := Lib.hid (HY4.out.on hbd)
        have lc3 := fun x => HYd.out.cell (v := .int .i64 vs) 3 rfl x
        have lc4 := fun x => HYd.out.cell (v := .slice a4 l4.length c4) 4 rfl x
        clear hbd
        refine mixK_step ?_
        simp only [pickOps, nth, Act.put, List.setIfInBounds_toArray, List.set_cons_succ, List.set_cons_zero]
        (repeat (go_big_quiet_step (fail)))
        refine wpQuiet_nil ?_
        clear lc3 lc4
        go_wp2_with (refine (refWord_walk vs _ HVS.out).mono ?_; rintro e w34 ⟨aw34, cw34, rfl, hr, hb⟩; have HR34 := Lib.hid hr; have HY34 := Lib.hid (HYd.out.on hb); have HK34 := Lib.hid (Ke.below (ByG w g) hb); clear hr hb)
        refine ⟨HK34.out, mixK_step ?_⟩
        simp only [pickOps, nth, Act.put, List.setIfInBounds_toArray, List.set_cons_succ, List.set_cons_zero]
        (repeat (go_big_quiet_step (fail)))
        refine wpQuiet_nil ?_
        refine append_at rfl (.tmp 49) (.tmp 53) et_u8 rfl w.heap.size rfl HY34.out.own rfl HR34.out.row (by rw [List.length_map, Nat.mul_one]; try rfl) (ints_one .u8 _) (HY34.out.room (by decide)) (HY34.out.room' (by decide)) HY34.out.bel.size ?_
        intro v35 w35 own35 gr35 _
        have HY35 := Lib.hid ((HY34.out.grow own35 gr35 rfl (wordB_byte _)))
        have HK35 := Lib.hid (HY34.out.ke gr35)
        clear own35 gr35
        refine ⟨HK35.out, mixK_step ?_⟩
        simp only [pickOps, nth, Act.put, List.setIfInBounds_toArray, List.set_cons_succ, List.set_cons_zero]
        (repeat (go_big_quiet_step (fail)))
        refine wpQuiet_nil ?_
        go_wp2_with (refine (refWord_walk l4.length _ HTX.out).mono ?_; rintro e w36 ⟨aw36, cw36, rfl, hr, hb⟩; have HR36 := Lib.hid hr; have HY36 := Lib.hid (HY35.out.on hb); have HK36 := Lib.hid (Ke.below (ByG w g) hb); clear hr hb)
        refine ⟨HK36.out, mixK_step ?_⟩
        simp only [pickOps, nth, Act.put, List.setIfInBounds_toArray, List.set_cons_succ, List.set_cons_zero]
        (repeat (go_big_quiet_step (fail)))
        refine wpQuiet_nil ?_
        refine append_at rfl (.tmp 54) (.tmp 59) et_u8 rfl w.heap.size rfl HY36.out.own rfl HR36.out.row (by rw [List.length_map, Nat.mul_one]; try rfl) (ints_one .u8 _) (HY36.out.room (by decide)) (HY36.out.room' (by decide)) HY36.out.bel.size ?_
        intro v37 w37 own37 gr37 _
        have HY37 := Lib.hid ((HY36.out.grow own37 gr37 rfl (wordB_byte _)))
        have HK37 := Lib.hid (HY36.out.ke gr37)
        clear own37 gr37
        refine ⟨HK37.out, mixK_end ?_⟩
        simp only [pickOps, nth, Act.put, List.setIfInBounds_toArray, List.set_cons_succ, List.set_cons_zero]
        (repeat (go_big_quiet_step (fail)))
        refine wpQuiet_nil ?_
        go_wp2
        have HY5 := HY37
        refine wp_region_mixK (ByG w g) [([0, 1, 2, 4, 5, 6, 7], 3), ([], 8), ([], 9)] [10] (by kernel_rfl) (by kernel_rfl) (fun _ _ d _ _ h => by cases d <;> exact h) ?_
        intro wd hbd
        have HYd := Lib.hid (HY5.out.on hbd)
        have lc4 := fun x => HYd.out.cell (v := .slice a4 l4.length c4) 4 rfl x
        have lc5 := fun x => HYd.out.cell (v := .slice a5 l5.length c5) 5 rfl x
        clear hbd
        refine mixK_step ?_
        simp only [pickOps, nth, Act.put, List.setIfInBounds_toArray, List.set_cons_succ, List.set_cons_zero]
        (repeat (go_big_quiet_step (fail)))
        refine wpQuiet_nil ?_
        clear lc4 lc5
        refine append_at rfl (.tmp 61) (.tmp 63) et_u8 rfl w.heap.size rfl HYd.out.own rfl (HTXT.out.below HYd.out.bel (Nat.le_refl _)).row (by rw [List.length_map, Nat.mul_one]; try rfl) (ints_one .u8 _) (HYd.out.room (by have := HT4.out; omega)) (HYd.out.room' (by have := HT4.out; omega)) HYd.out.bel.size ?_
        intro v38 w38 own38 gr38 _
        have HY38 := Lib.hid ((HYd.out.grow own38 gr38 rfl (fun x hx => bd_u8 (HTXT.out.bd x hx))).more (show 263 + 4 + 4 + l4.length ≤ 8463 by have := HT4.out; omega))
        have HK38 := Lib.hid (HYd.out.ke gr38)
        clear own38 gr38
        refine ⟨HK38.out, mixK_step ?_⟩
        simp only [pickOps, nth, Act.put, List.setIfInBounds_toArray, List.set_cons_succ, List.set_cons_zero]
        (repeat (go_big_quiet_step (fail)))
        refine wpQuiet_nil ?_
        go_wp2_with (refine (refWord_walk l5.length _ HCD.out).mono ?_; rintro e w39 ⟨aw39, cw39, rfl, hr, hb⟩; have HR39 := Lib.hid hr; have HY39 := Lib.hid (HY38.out.on hb); have HK39 := Lib.hid (Ke.below (ByG w g) hb); clear hr hb)
        refine ⟨HK39.out, mixK_step ?_⟩
        simp only [pickOps, nth, Act.put, List.setIfInBounds_toArray, List.set_cons_succ, List.set_cons_zero]
        (repeat (go_big_quiet_step (fail)))
        refine wpQuiet_nil ?_
        refine append_at rfl (.tmp 64) (.tmp 69) et_u8 rfl w.heap.size rfl HY39.out.own rfl HR39.out.row (by rw [List.length_map, Nat.mul_one]; try rfl) (ints_one .u8 _) (HY39.out.room (by decide)) (HY39.out.room' (by decide)) HY39.out.bel.size ?_
        intro v40 w40 own40 gr40 _
        have HY40 := Lib.hid ((HY39.out.grow own40 gr40 rfl (wordB_byte _)))
        have HK40 := Lib.hid (HY39.out.ke gr40)
        clear own40 gr40
        refine ⟨HK40.out, mixK_end ?_⟩
        simp only [pickOps, nth, Act.put, List.setIfInBounds_toArray, List.set_cons_succ, List.set_cons_zero]
        (repeat (go_big_quiet_step (fail)))
        refine wpQuiet_nil ?_
        go_wp2
        have HY6 := HY40
        go_loopw [3, 5] (fun b i wr => ∃ k : Nat, i = .int .i64 k ∧ k ≤ l5.length ∧ ByW w wr g #[.string nm, .int .u32 ky, .slice a2 l2.length c2, .int .i64 vs, .slice a4 l4.length c4, .slice a5 l5.length c5, .slice a6 l6.length c6, .slice a7 l7.length c7] (8467 + 4 * k) b (((((([79, 49] ++ nameB nm) ++ wordB ky ++ [(l2.length : Int) % 256]) ++ l2.flatMap impB) ++ wordB vs ++ wordB l4.length) ++ l4 ++ wordB l5.length) ++ (l5.take k).flatMap wordB)) (fun _ i _ => l5.length - (intOf i).toNat)
        case atStart => exact ⟨0, rfl, Nat.zero_le _, by rw [List.take_zero, List.flatMap_nil, List.append_nil]; exact HY6.out⟩
        case round =>
          obtain ⟨k, rfl, hk, hy⟩ := hrel
          have HYr := Lib.hid hy
          have hc : wr.cell? ⟨g, 5, none⟩ = some (.slice a5 l5.length c5) := (hy.box.cell 5).trans rfl
          clear hy
          by_cases hlt : k < l5.length
          · obtain ⟨xv, hx⟩ := get_lt hlt
            obtain ⟨rfl, hb⟩ := HAT5.out (by omega)
            have ce : wr.cell? ⟨b5, o5 + k, none⟩ = some (.int .u32 xv) := (HYr.out.bel.cell hb).trans (int_cell HCELL5.out hx)
            have HX := Lib.hid hx
            have HLT := Lib.hid hlt
            have HXV : Hid (0 ≤ xv ∧ xv < 4294967296) := Lib.hid (bd_u32 (HR.out.code.all _ (List.mem_of_getElem? hx)))
            have HK5 : Hid (k < 16384) := Lib.hid (by have := HF.out.code; dsimp only at this; omega)
            clear hx hb
            have f1 : True := trivial
            have f2 : True := trivial
            go_wp2_with (first | (have _f := f1; refine (refWord_walk xv _ HXV.out).mono ?_; rintro e ww ⟨aw, cw, rfl, hr, hb⟩; have HRw := Lib.hid hr; have HYw := Lib.hid (HYr.out.on hb); clear hr hb; clear _f f1) | (have _f := f2; at_builtin; refine append_at rfl (.tmp 78) (.tmp 84) et_u8 rfl w.heap.size rfl HYw.out.own rfl HRw.out.row (by rw [List.length_map, Nat.mul_one]; try rfl) (ints_one .u8 _) (HYw.out.room (by have := HK5.out; omega)) (HYw.out.room' (by have := HK5.out; omega)) HYw.out.bel.size ?_; intro va wa owna gra _; have HYa := Lib.hid (HYw.out.grow owna gra rfl (wordB_byte _)); clear owna gra; clear _f f2))
            clear hc ce
            go_roundw
            case rel =>
              refine ⟨k + 1, by go_num, HLT.out, ?_⟩
              rw [show (((((([79, 49] ++ nameB nm) ++ wordB ky ++ [(l2.length : Int) % 256]) ++ l2.flatMap impB) ++ wordB vs ++ wordB l4.length) ++ l4 ++ wordB l5.length) ++ (l5.take (k + 1)).flatMap wordB) = (((((([79, 49] ++ nameB nm) ++ wordB ky ++ [(l2.length : Int) % 256]) ++ l2.flatMap impB) ++ wordB vs ++ wordB l4.length) ++ l4 ++ wordB l5.length) ++ (l5.take k).flatMap wordB) ++ wordB xv by rw [take_flat HX.out]; simp only [List.append_assoc]]
              exact HYa.out.more (by omega)
            case measure => simp [intOf]; have := HLT.out; omega
          · have h4 := HYr.out
            rw [take_all (by omega)] at h4
            have HY7 := Lib.hid (h4.more (show 8467 + 4 * k ≤ 74003 by have := HF.out.code; dsimp only at this; omega))
            clear h4
            have hd : wr.cell? ⟨g, 6, none⟩ = some (.slice a6 l6.length c6) := (HYr.out.box.cell 6).trans rfl
            have HB7 := Lib.hid (bel1 wr (.cells (([(l6.length : Int) % 256] : List Int).map (Value.int .u8)).toArray 5))
            have HL7 := Lib.hid (At.new wr (([(l6.length : Int) % 256] : List Int).map (Value.int .u8)).toArray 5)
            have HY7b := Lib.hid (HY7.out.on HB7.out)
            have hby : ∀ x ∈ ([(l6.length : Int) % 256] : List Int), isByte x := fun x hx => by rw [List.mem_singleton] at hx; subst hx; exact ⟨by omega, by omega⟩
            have HBY := Lib.hid hby
            clear hby
            have f1 : True := trivial
            go_wp2_with (first | (have _f := f1; at_builtin; refine append_at rfl (.tmp 86) (.tmp 91) et_u8 rfl w.heap.size rfl HY7b.out.own rfl (rd_at8 HL7.out HBY.out (by simp)).row (by rw [List.length_map, Nat.mul_one]; try rfl) (ints_one .u8 _) (HY7b.out.room (by decide)) (HY7b.out.room' (by decide)) HY7b.out.bel.size ?_; intro va wa owna gra _; have HYa := Lib.hid (HY7b.out.grow owna gra rfl HBY.out); clear owna gra; clear _f f1))
            clear HYr hlt hk hc
            have HY8 := HYa
            clear HY7 HY7b HL7 HB7 hd
            go_loopw [3, 6] (fun b i wr => ∃ k : Nat, i = .int .i64 k ∧ k ≤ l6.length ∧ ByW w wr g #[.string nm, .int .u32 ky, .slice a2 l2.length c2, .int .i64 vs, .slice a4 l4.length c4, .slice a5 l5.length c5, .slice a6 l6.length c6, .slice a7 l7.length c7] (74004 + 4 * k) b (((((((([79, 49] ++ nameB nm) ++ wordB ky ++ [(l2.length : Int) % 256]) ++ l2.flatMap impB) ++ wordB vs ++ wordB l4.length) ++ l4 ++ wordB l5.length) ++ l5.flatMap wordB) ++ [(l6.length : Int) % 256]) ++ (l6.take k).flatMap wordB)) (fun _ i _ => l6.length - (intOf i).toNat)
            case atStart => exact ⟨0, rfl, Nat.zero_le _, by rw [List.take_zero, List.flatMap_nil, List.append_nil]; exact HY8.out⟩
            case round =>
              obtain ⟨k, rfl, hk, hy⟩ := hrel
              have HYr := Lib.hid hy
              have hc : wr.cell? ⟨g, 6, none⟩ = some (.slice a6 l6.length c6) := (hy.box.cell 6).trans rfl
              clear hy
              by_cases hlt : k < l6.length
              · obtain ⟨xv, hx⟩ := get_lt hlt
                obtain ⟨rfl, hb⟩ := HAT6.out (by omega)
                have ce : wr.cell? ⟨b6, o6 + k, none⟩ = some (.int .i64 xv) := (HYr.out.bel.cell hb).trans (int_cell HCELL6.out hx)
                have HX := Lib.hid hx
                have HLT := Lib.hid hlt
                obtain ⟨xv0, xv1⟩ := HF.out.ent _ (List.mem_of_getElem? hx)
                have HXV : Hid (0 ≤ xv ∧ xv < 4294967296) := Lib.hid (by omega)
                have HK6 : Hid (k < 201) := Lib.hid (by have := HF.out.nent; dsimp only at this; omega)
                clear hx hb
                have f1 : True := trivial
                have f2 : True := trivial
                go_wp2_with (first | (have _f := f1; refine (refWord_walk xv _ HXV.out).mono ?_; rintro e ww ⟨aw, cw, rfl, hr, hb⟩; have HRw := Lib.hid hr; have HYw := Lib.hid (HYr.out.on hb); clear hr hb; clear _f f1) | (have _f := f2; at_builtin; refine append_at rfl (.tmp 100) (.tmp 107) et_u8 rfl w.heap.size rfl HYw.out.own rfl HRw.out.row (by rw [List.length_map, Nat.mul_one]; try rfl) (ints_one .u8 _) (HYw.out.room (by have := HK6.out; omega)) (HYw.out.room' (by have := HK6.out; omega)) HYw.out.bel.size ?_; intro va wa owna gra _; have HYa := Lib.hid (HYw.out.grow owna gra rfl (wordB_byte _)); clear owna gra; clear _f f2))
                clear hc ce
                go_roundw
                case rel =>
                  refine ⟨k + 1, by go_num, HLT.out, ?_⟩
                  rw [show (((((((([79, 49] ++ nameB nm) ++ wordB ky ++ [(l2.length : Int) % 256]) ++ l2.flatMap impB) ++ wordB vs ++ wordB l4.length) ++ l4 ++ wordB l5.length) ++ l5.flatMap wordB) ++ [(l6.length : Int) % 256]) ++ (l6.take (k + 1)).flatMap wordB) = (((((((([79, 49] ++ nameB nm) ++ wordB ky ++ [(l2.length : Int) % 256]) ++ l2.flatMap impB) ++ wordB vs ++ wordB l4.length) ++ l4 ++ wordB l5.length) ++ l5.flatMap wordB) ++ [(l6.length : Int) % 256]) ++ (l6.take k).flatMap wordB) ++ wordB xv by rw [take_flat HX.out]; simp only [List.append_assoc]]
                  exact HYa.out.more (by omega)
                case measure => simp [intOf]; have := HLT.out; omega
              · have h4 := HYr.out
                rw [take_all (by omega)] at h4
                have HY9 := Lib.hid (h4.more (show 74004 + 4 * k ≤ 74808 by have := HF.out.nent; dsimp only at this; omega))
                clear h4
                have hd : wr.cell? ⟨g, 7, none⟩ = some (.slice a7 l7.length c7) := (HYr.out.box.cell 7).trans rfl
                have f1 : True := trivial
                have f2 : True := trivial
                go_wp2_with (first | (have _f := f1; refine (refWord_walk l7.length _ HFX.out).mono ?_; rintro e ww ⟨aw, cw, rfl, hr, hb⟩; have HRw := Lib.hid hr; have HYw := Lib.hid (HY9.out.on hb); clear hr hb; clear _f f1) | (have _f := f2; at_builtin; refine append_at rfl (.tmp 109) (.tmp 114) et_u8 rfl w.heap.size rfl HYw.out.own rfl HRw.out.row (by rw [List.length_map, Nat.mul_one]; try rfl) (ints_one .u8 _) (HYw.out.room (by decide)) (HYw.out.room' (by decide)) HYw.out.bel.size ?_; intro va wa owna gra _; have HYa := Lib.hid (HYw.out.grow owna gra rfl (wordB_byte _)); clear owna gra; clear _f f2))
                clear HYr hlt hk hc
                have HY10 := HYa
                clear HY9 HYw HRw hd
                go_loopw [3, 7] (fun b i wr => ∃ k : Nat, i = .int .i64 k ∧ k ≤ l7.length ∧ ByW w wr g #[.string nm, .int .u32 ky, .slice a2 l2.length c2, .int .i64 vs, .slice a4 l4.length c4, .slice a5 l5.length c5, .slice a6 l6.length c6, .slice a7 l7.length c7] (74812 + 6 * k) b (((((((((([79, 49] ++ nameB nm) ++ wordB ky ++ [(l2.length : Int) % 256]) ++ l2.flatMap impB) ++ wordB vs ++ wordB l4.length) ++ l4 ++ wordB l5.length) ++ l5.flatMap wordB) ++ [(l6.length : Int) % 256]) ++ l6.flatMap wordB) ++ wordB l7.length) ++ (l7.take k).flatMap fixB)) (fun _ i _ => l7.length - (intOf i).toNat)
                case atStart => exact ⟨0, rfl, Nat.zero_le _, by rw [List.take_zero, List.flatMap_nil, List.append_nil]; exact HY10.out⟩
                case round =>
                  obtain ⟨k, rfl, hk, hy⟩ := hrel
                  have HYr := Lib.hid hy
                  have hc : wr.cell? ⟨g, 7, none⟩ = some (.slice a7 l7.length c7) := (hy.box.cell 7).trans rfl
                  clear hy
                  by_cases hlt : k < l7.length
                  · obtain ⟨⟨pl, md, en⟩, hx⟩ := get_lt hlt
                    obtain ⟨rfl, hb⟩ := HAT7.out (by omega)
                    have hco : ∀ (q : Nat) (y : Value), ([.int .i64 pl, .int .i64 md, .int .i64 en] : List Value)[q]? = some y → wr.cell? ⟨b7, o7 + k * 3 + q, none⟩ = some y := fun q y hy => (HYr.out.bel.cell (p := ⟨b7, o7 + k * 3 + q, none⟩) hb).trans (fix_cells HCELL7.out hx q y hy)
                    have HCO := Lib.hid hco
                    have HX := Lib.hid hx
                    have HLT := Lib.hid hlt
                    obtain ⟨⟨p0, p1⟩, ⟨m0, m1⟩, ⟨e0, e1⟩⟩ := HF.out.fix _ (List.mem_of_getElem? hx)
                    dsimp only at p0 p1 m0 m1 e0 e1
                    have HPL : Hid (0 ≤ pl ∧ pl < 4294967296) := Lib.hid (by omega)
                    have HK7 : Hid (k < 8192) := Lib.hid (by have := HF.out.nfix; dsimp only at this; omega)
                    have hmd : md % 256 = md := by omega
                    have hen : en % 256 = en := by omega
                    have HMD := Lib.hid hmd
                    have HEN := Lib.hid hen
                    have HPP := Lib.hid (And.intro p0 p1)
                    clear hx hb hco hmd hen
                    have f3 : True := trivial
                    have f4 : True := trivial
                    have f5 : True := trivial
                    go_wp2_with (first | (have _f := f3; refine wpList_load_mid rfl 51 (.tmp 126) rfl b7 (o7 + k * 3) rfl [.int .i64 pl, .int .i64 md, .int .i64 en] _ HCO.out Try.underlying51 rfl (by kernel_rfl) ?_; clear _f f3) | (have _f := f4; refine alloc_sep rfl 51 rfl (HSN.out _) (z := .agg #[.int .i64 0, .int .i64 0, .int .i64 0]) (cs := #[.int .i64 0, .int .i64 0, .int .i64 0]) (by kernel_rfl) rfl ?_; intro wc S' b' s'; have HSc := Lib.hid S'; have HBc := Lib.hid b'; clear S' b' s'; clear _f f4) | (have _f := f5; refine store_sep (cells := #[.int .i64 pl, .int .i64 md, .int .i64 en]) rfl 51 (.tmp 8) (.tmp 127) rfl HSc.out 0 rfl rfl rfl (by kernel_rfl) rfl rfl ?_; intro we S' k' s'; have HFe := Lib.hid (S'.at 0 rfl); have HYe := Lib.hid (HYr.out.on (((Ke.below (· = wr.heap.size) HBc.out).trans k').toBelow (fun i hi e => absurd e (Nat.ne_of_lt hi)))); clear S' k' s'; clear _f f5))
                    obtain ⟨gf, hgf⟩ : ∃ gf, gf = wr.heap.size := ⟨_, rfl⟩
                    rw [← hgf] at HFe ⊢
                    clear hgf hc HSc HBc
                    have hby : ∀ x ∈ ([md, en] : List Int), isByte x := fun x hx => by simp only [List.mem_cons, List.not_mem_nil, or_false] at hx; rcases hx with rfl | rfl <;> exact ⟨by omega, by omega⟩
                    have HBY2 := Lib.hid hby
                    clear hby
                    refine wp_region_rest (ByG2 w g gf) 15 (by kernel_rfl) rfl ?_
                    intro wd hbd
                    have HYd := Lib.hid (HYe.out.on hbd)
                    have HFd := Lib.hid (HFe.out.bel hbd)
                    have lb0 := fun x => HYd.out.cell2 HFd.out (v := .int .i64 pl) 0 rfl x
                    have lb1 := fun x => HYd.out.cell2 HFd.out (v := .int .i64 md) 1 rfl x
                    have lb2 := fun x => HYd.out.cell2 HFd.out (v := .int .i64 en) 2 rfl x
                    clear hbd
                    refine rest_step [0, 1, 2, 3, 6, 7, 8, 9, 10, 11] [4, 12] (by kernel_rfl) (fun _ _ d _ _ h => by cases d <;> exact h) (by kernel_rfl) rfl (by kernel_rfl) (by decide) rfl ?_
                    simp only [pickOps, nth, Act.put, List.setIfInBounds_toArray, List.set_cons_succ, List.set_cons_zero]
                    (repeat (go_big_quiet_step (fail)))
                    refine wpQuiet_nil ?_
                    clear lb0 lb1 lb2
                    refine all2 ?_ ?_
                    · skip
                      simp only [pickOps, nth, Act.put, List.setIfInBounds_toArray, List.set_cons_succ, List.set_cons_zero]
                      go_wp2_with (refine (refWord_walk pl _ HPL.out).mono ?_; rintro e w43 ⟨aw43, cw43, rfl, hr, hb⟩; have HR43 := Lib.hid hr; have HY43 := Lib.hid (HYd.out.on hb); have HK43 := Lib.hid (Ke.below (ByG2 w g gf) hb); have HF42 := Lib.hid (HFd.out.bel hb); clear hr hb)
                      refine ⟨HK43.out, rest_step [] [5, 12] (by kernel_rfl) (fun _ _ d _ _ h => by cases d <;> exact h) (by kernel_rfl) rfl (by kernel_rfl) (by decide) rfl ?_⟩
                      simp only [pickOps, nth, Act.put, List.setIfInBounds_toArray, List.set_cons_succ, List.set_cons_zero]
                      (repeat (go_big_quiet_step (fail)))
                      refine wpQuiet_nil ?_
                      refine all2 ?_ ?_
                      · skip
                        simp only [pickOps, nth, Act.put, List.setIfInBounds_toArray, List.set_cons_succ, List.set_cons_zero]
                        refine append_at rfl (.tmp 128) (.tmp 132) et_u8 rfl w.heap.size rfl HY43.out.own rfl HR43.out.row (by rw [List.length_map, Nat.mul_one]; try rfl) (ints_one .u8 _) (HY43.out.room (by have := HK7.out; omega)) (HY43.out.room' (by have := HK7.out; omega)) HY43.out.bel.size ?_
                        intro v46 w46 own46 gr46 _
                        have HY46 := Lib.hid ((HY43.out.grow own46 gr46 rfl (wordB_byte _)))
                        have HK46 := Lib.hid (HY43.out.ke2 HF42.out (by decide) gr46)
                        have HF45 := Lib.hid (HF42.out.ke (Ke.ofGrown gr46) (ownsRow_no HY43.out.own HF42.out (by decide)))
                        clear own46 gr46
                        refine ⟨HK46.out, rest_step [] [12] (by kernel_rfl) (fun _ _ d _ _ h => by cases d <;> exact h) (by kernel_rfl) rfl (by kernel_rfl) (by decide) rfl ?_⟩
                        simp only [pickOps, nth, Act.put, List.setIfInBounds_toArray, List.set_cons_succ, List.set_cons_zero]
                        (repeat (go_big_quiet_step (fail)))
                        refine wpQuiet_nil ?_
                        refine all1 ?_
                        simp only [pickOps, nth, Act.put, List.setIfInBounds_toArray, List.set_cons_succ, List.set_cons_zero]
                        go_wp2_with fail
                        have HB47 := Lib.hid (bel1 w46 (.cells (([md, en] : List Int).map (Value.int .u8)).toArray 5))
                        have HL47 := Lib.hid (At.new w46 (([md, en] : List Int).map (Value.int .u8)).toArray 5)
                        have HY47 := Lib.hid (HY46.out.on HB47.out)
                        have HF48 := Lib.hid (HF45.out.bel HB47.out)
                        obtain ⟨w47, hw47⟩ : ∃ W, W = w46.alloc (.cells (([md, en] : List Int).map (Value.int .u8)).toArray 5) := ⟨_, rfl⟩
                        rw [← hw47] at HY47
                        rw [← hw47] at HL47
                        rw [← hw47] at HB47
                        rw [← hw47] at HF48
                        (have hw' := hw47; simp only [List.map_cons, List.map_nil] at hw'; rw [← hw']; clear hw')
                        clear hw47
                        refine ⟨(Ke.below (ByG2 w g gf) HB47.out), rest_step [] [13] (by kernel_rfl) (fun _ _ d _ _ h => by cases d <;> exact h) (by kernel_rfl) rfl (by kernel_rfl) (by decide) rfl ?_⟩
                        simp only [pickOps, nth, Act.put, List.setIfInBounds_toArray, List.set_cons_succ, List.set_cons_zero]
                        (repeat (go_big_quiet_step (fail)))
                        refine wpQuiet_nil ?_
                        refine all1 ?_
                        simp only [pickOps, nth, Act.put, List.setIfInBounds_toArray, List.set_cons_succ, List.set_cons_zero]
                        refine append_at rfl (.tmp 133) (.tmp 140) et_u8 rfl w.heap.size rfl HY47.out.own rfl (rd_at8 HL47.out HBY2.out (by simp)).row (by rw [List.length_map, Nat.mul_one]; try rfl) (ints_one .u8 _) (HY47.out.room (by have := HK7.out; omega)) (HY47.out.room' (by have := HK7.out; omega)) HY47.out.bel.size ?_
                        intro v50 w50 own50 gr50 _
                        have HY50 := Lib.hid ((HY47.out.grow own50 gr50 rfl HBY2.out))
                        have HK50 := Lib.hid (HY47.out.ke2 HF48.out (by decide) gr50)
                        clear own50 gr50
                        refine ⟨HK50.out, rest_end [14] (by kernel_rfl) (fun _ _ d _ _ h => by cases d <;> exact h) (by kernel_rfl) (by kernel_rfl) rfl ?_⟩
                        simp only [pickOps, nth, Act.put, List.setIfInBounds_toArray, List.set_cons_succ, List.set_cons_zero]
                        (repeat (go_big_quiet_step (fail)))
                        refine wpQuiet_nil ?_
                        go_wp2_with fail
                        go_roundw
                        case rel =>
                          refine ⟨k + 1, by go_num, HLT.out, ?_⟩
                          rw [show (((((((((([79, 49] ++ nameB nm) ++ wordB ky ++ [(l2.length : Int) % 256]) ++ l2.flatMap impB) ++ wordB vs ++ wordB l4.length) ++ l4 ++ wordB l5.length) ++ l5.flatMap wordB) ++ [(l6.length : Int) % 256]) ++ l6.flatMap wordB) ++ wordB l7.length) ++ (l7.take (k + 1)).flatMap fixB) = (((((((((([79, 49] ++ nameB nm) ++ wordB ky ++ [(l2.length : Int) % 256]) ++ l2.flatMap impB) ++ wordB vs ++ wordB l4.length) ++ l4 ++ wordB l5.length) ++ l5.flatMap wordB) ++ [(l6.length : Int) % 256]) ++ l6.flatMap wordB) ++ wordB l7.length) ++ (l7.take k).flatMap fixB) ++ wordB pl ++ [md, en] by rw [take_flat HX.out]; unfold fixB; dsimp only; rw [HMD.out, HEN.out]; simp only [List.append_assoc]]
                          exact HY50.out.more (by omega)
                        case measure => simp [intOf]; have := HLT.out; omega
                      · skip
                        simp only [pickOps, nth, Act.put, List.setIfInBounds_toArray, List.set_cons_succ, List.set_cons_zero]
                        go_wp2_with fail
                        have HB51 := Lib.hid (bel1 w43 (.cells (([md, en] : List Int).map (Value.int .u8)).toArray 5))
                        have HL51 := Lib.hid (At.new w43 (([md, en] : List Int).map (Value.int .u8)).toArray 5)
                        have HN51 := Lib.hid HY43.out.new
                        have HY51 := Lib.hid (HY43.out.on HB51.out)
                        have HF52 := Lib.hid (HF42.out.bel HB51.out)
                        have HR51 := Lib.hid (HR43.out.below HB51.out (Nat.le_refl _))
                        obtain ⟨w51, hw51⟩ : ∃ W, W = w43.alloc (.cells (([md, en] : List Int).map (Value.int .u8)).toArray 5) := ⟨_, rfl⟩
                        rw [← hw51] at HY51
                        rw [← hw51] at HL51
                        rw [← hw51] at HB51
                        rw [← hw51] at HR51
                        rw [← hw51] at HF52
                        (have hw' := hw51; simp only [List.map_cons, List.map_nil] at hw'; rw [← hw']; clear hw')
                        clear hw51
                        refine ⟨(Ke.below (ByG2 w g gf) HB51.out), rest_step [] [5] (by kernel_rfl) (fun _ _ d _ _ h => by cases d <;> exact h) (by kernel_rfl) rfl (by kernel_rfl) (by decide) rfl ?_⟩
                        simp only [pickOps, nth, Act.put, List.setIfInBounds_toArray, List.set_cons_succ, List.set_cons_zero]
                        (repeat (go_big_quiet_step (fail)))
                        refine wpQuiet_nil ?_
                        refine all1 ?_
                        simp only [pickOps, nth, Act.put, List.setIfInBounds_toArray, List.set_cons_succ, List.set_cons_zero]
                        refine append_at rfl (.tmp 128) (.tmp 132) et_u8 rfl w.heap.size rfl HY51.out.own rfl HR51.out.row (by rw [List.length_map, Nat.mul_one]; try rfl) (ints_one .u8 _) (HY51.out.room (by have := HK7.out; omega)) (HY51.out.room' (by have := HK7.out; omega)) HY51.out.bel.size ?_
                        intro v55 w55 own55 gr55 _
                        have HY55 := Lib.hid ((HY51.out.grow own55 gr55 rfl (wordB_byte _)))
                        have HK55 := Lib.hid (HY51.out.ke2 HF52.out (by decide) gr55)
                        have HL53 := Lib.hid (HL51.out.ke (Ke.ofGrown gr55) HN51.out)
                        have HF54 := Lib.hid (HF52.out.ke (Ke.ofGrown gr55) (ownsRow_no HY51.out.own HF52.out (by decide)))
                        clear own55 gr55
                        refine ⟨HK55.out, rest_step [] [13] (by kernel_rfl) (fun _ _ d _ _ h => by cases d <;> exact h) (by kernel_rfl) rfl (by kernel_rfl) (by decide) rfl ?_⟩
                        simp only [pickOps, nth, Act.put, List.setIfInBounds_toArray, List.set_cons_succ, List.set_cons_zero]
                        (repeat (go_big_quiet_step (fail)))
                        refine wpQuiet_nil ?_
                        refine all1 ?_
                        simp only [pickOps, nth, Act.put, List.setIfInBounds_toArray, List.set_cons_succ, List.set_cons_zero]
                        refine append_at rfl (.tmp 133) (.tmp 140) et_u8 rfl w.heap.size rfl HY55.out.own rfl (rd_at8 HL53.out HBY2.out (by simp)).row (by rw [List.length_map, Nat.mul_one]; try rfl) (ints_one .u8 _) (HY55.out.room (by have := HK7.out; omega)) (HY55.out.room' (by have := HK7.out; omega)) HY55.out.bel.size ?_
                        intro v57 w57 own57 gr57 _
                        have HY57 := Lib.hid ((HY55.out.grow own57 gr57 rfl HBY2.out))
                        have HK57 := Lib.hid (HY55.out.ke2 HF54.out (by decide) gr57)
                        clear own57 gr57
                        refine ⟨HK57.out, rest_end [14] (by kernel_rfl) (fun _ _ d _ _ h => by cases d <;> exact h) (by kernel_rfl) (by kernel_rfl) rfl ?_⟩
                        simp only [pickOps, nth, Act.put, List.setIfInBounds_toArray, List.set_cons_succ, List.set_cons_zero]
                        (repeat (go_big_quiet_step (fail)))
                        refine wpQuiet_nil ?_
                        go_wp2_with fail
                        go_roundw
                        case rel =>
                          refine ⟨k + 1, by go_num, HLT.out, ?_⟩
                          rw [show (((((((((([79, 49] ++ nameB nm) ++ wordB ky ++ [(l2.length : Int) % 256]) ++ l2.flatMap impB) ++ wordB vs ++ wordB l4.length) ++ l4 ++ wordB l5.length) ++ l5.flatMap wordB) ++ [(l6.length : Int) % 256]) ++ l6.flatMap wordB) ++ wordB l7.length) ++ (l7.take (k + 1)).flatMap fixB) = (((((((((([79, 49] ++ nameB nm) ++ wordB ky ++ [(l2.length : Int) % 256]) ++ l2.flatMap impB) ++ wordB vs ++ wordB l4.length) ++ l4 ++ wordB l5.length) ++ l5.flatMap wordB) ++ [(l6.length : Int) % 256]) ++ l6.flatMap wordB) ++ wordB l7.length) ++ (l7.take k).flatMap fixB) ++ wordB pl ++ [md, en] by rw [take_flat HX.out]; unfold fixB; dsimp only; rw [HMD.out, HEN.out]; simp only [List.append_assoc]]
                          exact HY57.out.more (by omega)
                        case measure => simp [intOf]; have := HLT.out; omega
                    · skip
                      simp only [pickOps, nth, Act.put, List.setIfInBounds_toArray, List.set_cons_succ, List.set_cons_zero]
                      go_wp2_with fail
                      have HB58 := Lib.hid (bel1 wd (.cells (([md, en] : List Int).map (Value.int .u8)).toArray 5))
                      have HL58 := Lib.hid (At.new wd (([md, en] : List Int).map (Value.int .u8)).toArray 5)
                      have HN58 := Lib.hid HYd.out.new
                      have HY58 := Lib.hid (HYd.out.on HB58.out)
                      have HF59 := Lib.hid (HFd.out.bel HB58.out)
                      obtain ⟨w58, hw58⟩ : ∃ W, W = wd.alloc (.cells (([md, en] : List Int).map (Value.int .u8)).toArray 5) := ⟨_, rfl⟩
                      rw [← hw58] at HY58
                      rw [← hw58] at HL58
                      rw [← hw58] at HB58
                      rw [← hw58] at HF59
                      (have hw' := hw58; simp only [List.map_cons, List.map_nil] at hw'; rw [← hw']; clear hw')
                      clear hw58
                      refine ⟨(Ke.below (ByG2 w g gf) HB58.out), rest_step [] [4] (by kernel_rfl) (fun _ _ d _ _ h => by cases d <;> exact h) (by kernel_rfl) rfl (by kernel_rfl) (by decide) rfl ?_⟩
                      simp only [pickOps, nth, Act.put, List.setIfInBounds_toArray, List.set_cons_succ, List.set_cons_zero]
                      (repeat (go_big_quiet_step (fail)))
                      refine wpQuiet_nil ?_
                      refine all1 ?_
                      simp only [pickOps, nth, Act.put, List.setIfInBounds_toArray, List.set_cons_succ, List.set_cons_zero]
                      go_wp2_with (refine (refWord_walk pl _ HPL.out).mono ?_; rintro e w62 ⟨aw62, cw62, rfl, hr, hb⟩; have HR62 := Lib.hid hr; have HY62 := Lib.hid (HY58.out.on hb); have HK62 := Lib.hid (Ke.below (ByG2 w g gf) hb); have HL60 := Lib.hid (HL58.out.bel hb); have HF61 := Lib.hid (HF59.out.bel hb); clear hr hb)
                      refine ⟨HK62.out, rest_step [] [5] (by kernel_rfl) (fun _ _ d _ _ h => by cases d <;> exact h) (by kernel_rfl) rfl (by kernel_rfl) (by decide) rfl ?_⟩
                      simp only [pickOps, nth, Act.put, List.setIfInBounds_toArray, List.set_cons_succ, List.set_cons_zero]
                      (repeat (go_big_quiet_step (fail)))
                      refine wpQuiet_nil ?_
                      refine all1 ?_
                      simp only [pickOps, nth, Act.put, List.setIfInBounds_toArray, List.set_cons_succ, List.set_cons_zero]
                      refine append_at rfl (.tmp 128) (.tmp 132) et_u8 rfl w.heap.size rfl HY62.out.own rfl HR62.out.row (by rw [List.length_map, Nat.mul_one]; try rfl) (ints_one .u8 _) (HY62.out.room (by have := HK7.out; omega)) (HY62.out.room' (by have := HK7.out; omega)) HY62.out.bel.size ?_
                      intro v65 w65 own65 gr65 _
                      have HY65 := Lib.hid ((HY62.out.grow own65 gr65 rfl (wordB_byte _)))
                      have HK65 := Lib.hid (HY62.out.ke2 HF61.out (by decide) gr65)
                      have HL63 := Lib.hid (HL60.out.ke (Ke.ofGrown gr65) HN58.out)
                      have HF64 := Lib.hid (HF61.out.ke (Ke.ofGrown gr65) (ownsRow_no HY62.out.own HF61.out (by decide)))
                      clear own65 gr65
                      refine ⟨HK65.out, rest_step [] [13] (by kernel_rfl) (fun _ _ d _ _ h => by cases d <;> exact h) (by kernel_rfl) rfl (by kernel_rfl) (by decide) rfl ?_⟩
                      simp only [pickOps, nth, Act.put, List.setIfInBounds_toArray, List.set_cons_succ, List.set_cons_zero]
                      (repeat (go_big_quiet_step (fail)))
                      refine wpQuiet_nil ?_
                      refine all1 ?_
                      simp only [pickOps, nth, Act.put, List.setIfInBounds_toArray, List.set_cons_succ, List.set_cons_zero]
                      refine append_at rfl (.tmp 133) (.tmp 140) et_u8 rfl w.heap.size rfl HY65.out.own rfl (rd_at8 HL63.out HBY2.out (by simp)).row (by rw [List.length_map, Nat.mul_one]; try rfl) (ints_one .u8 _) (HY65.out.room (by have := HK7.out; omega)) (HY65.out.room' (by have := HK7.out; omega)) HY65.out.bel.size ?_
                      intro v67 w67 own67 gr67 _
                      have HY67 := Lib.hid ((HY65.out.grow own67 gr67 rfl HBY2.out))
                      have HK67 := Lib.hid (HY65.out.ke2 HF64.out (by decide) gr67)
                      clear own67 gr67
                      refine ⟨HK67.out, rest_end [14] (by kernel_rfl) (fun _ _ d _ _ h => by cases d <;> exact h) (by kernel_rfl) (by kernel_rfl) rfl ?_⟩
                      simp only [pickOps, nth, Act.put, List.setIfInBounds_toArray, List.set_cons_succ, List.set_cons_zero]
                      (repeat (go_big_quiet_step (fail)))
                      refine wpQuiet_nil ?_
                      go_wp2_with fail
                      go_roundw
                      case rel =>
                        refine ⟨k + 1, by go_num, HLT.out, ?_⟩
                        rw [show (((((((((([79, 49] ++ nameB nm) ++ wordB ky ++ [(l2.length : Int) % 256]) ++ l2.flatMap impB) ++ wordB vs ++ wordB l4.length) ++ l4 ++ wordB l5.length) ++ l5.flatMap wordB) ++ [(l6.length : Int) % 256]) ++ l6.flatMap wordB) ++ wordB l7.length) ++ (l7.take (k + 1)).flatMap fixB) = (((((((((([79, 49] ++ nameB nm) ++ wordB ky ++ [(l2.length : Int) % 256]) ++ l2.flatMap impB) ++ wordB vs ++ wordB l4.length) ++ l4 ++ wordB l5.length) ++ l5.flatMap wordB) ++ [(l6.length : Int) % 256]) ++ l6.flatMap wordB) ++ wordB l7.length) ++ (l7.take k).flatMap fixB) ++ wordB pl ++ [md, en] by rw [take_flat HX.out]; unfold fixB; dsimp only; rw [HMD.out, HEN.out]; simp only [List.append_assoc]]
                        exact HY67.out.more (by omega)
                      case measure => simp [intOf]; have := HLT.out; omega
                  · have h4 := HYr.out
                    rw [take_all (by omega)] at h4
                    have HY11 := Lib.hid h4
                    clear h4 HYr
                    go_wp2
                    obtain ⟨a, c, rfl, hr⟩ := RdI.own HY11.out.own (fun x hx => bd_u8' (HY11.out.byte x hx))
                    have HRR := Lib.hid hr
                    clear hr
                    go_ret
                    exact ⟨a, c, rfl, HRR.out, HY11.out.bel⟩
end Go.Proofs.Yteagpjcflcahoaa
