/- Bytes that grow beside boxes of the call's own; plainly: the lists so far. -/
import Derived.Test.YtfnibpkojhgflaaFaceBytes0
import Derived.Test.YtfnibpkojhgflaaObjA
import Derived.Test.YtfnibpkojhgflaaLibA
import Derived.Test.YtfnibpkojhgflaaLibC
namespace Go.Proofs.Ytfnibpkojhgflaa
set_option linter.unusedVariables false
set_option linter.unusedSimpArgs false
open Go.RowKit

structure Ac (w0 wr : World) (bs : List Row) (n : Nat) (B : Value) (xs : List Int) : Prop where
  box : ∀ e ∈ bs, At wr e.1 e.2.1 e.2.2
  typ : ∀ e ∈ bs, 5 ≠ e.2.2
  own : wr.ownsRow w0.heap.size 5 1 B xs.length (xs.map (Value.int .u8))
  len : xs.length ≤ n
  byte : ∀ x ∈ xs, isByte x
  bel : Below w0.heap.size w0 wr
/-- what an append may touch. -/
def AG (w0 : World) (bs : List Row) : Nat → Prop := fun i => w0.heap.size ≤ i ∧ ∀ e ∈ bs, i ≠ e.1
variable {w0 wr wz : World} {n : Nat} {bs : List Row} {B : Value} {xs : List Int}
theorem Ac.on (h : Ac w0 wr bs n B xs) (k : Below wr.heap.size wr wz) : Ac w0 wz bs n B xs :=
  ⟨fun e he => (h.box e he).bel k, h.typ, ownsRow_bel h.own k, h.len, h.byte, bel_then h.bel k⟩
theorem Ac.ke (h : Ac w0 wr bs n B xs) (hg : wr.grownBy wz B.ownBlock) : Ke (AG w0 bs) wr wz :=
  (Ke.ofGrown hg).mono (fun i _ e => ⟨(h.own.lt i e).1, fun r hr e' => ownsRow_no h.own (h.box r hr) (h.typ r hr) (e' ▸ e)⟩)
theorem Ac.push (h : Ac w0 wr bs n B xs) {g : Nat} {cs : Array Value} {t : TypeId} (ha : At wr g cs t) (ht : 5 ≠ t) : Ac w0 wr ((g, cs, t) :: bs) n B xs :=
  ⟨fun e he => by rcases List.mem_cons.1 he with rfl | he; exact ha; exact h.box e he, fun e he => by rcases List.mem_cons.1 he with rfl | he; exact ht; exact h.typ e he, h.own, h.len, h.byte, h.bel⟩
theorem Ac.pop {r : Row} (h : Ac w0 wr (r :: bs) n B xs) : Ac w0 wr bs n B xs :=
  ⟨fun e he => h.box e (List.mem_cons_of_mem _ he), fun e he => h.typ e (List.mem_cons_of_mem _ he), h.own, h.len, h.byte, h.bel⟩
theorem Ac.at1 (h : Ac w0 wr bs n B xs) (k : Nat) {g : Nat} {cs : Array Value} {t : TypeId} (e : bs[k]? = some (g, cs, t)) : At wr g cs t := h.box _ (List.mem_of_getElem? e)
theorem Ac.is (h : Ac w0 wr bs n B xs) (k : Nat) {g : Nat} {cs : Array Value} {t : TypeId} (e : bs[k]? = some (g, cs, t)) (j : Nat) {v : Value} (hv : cs[j]? = some v) : wr.cell? ⟨g, j, none⟩ = some v := ((h.at1 k e).cell j).trans hv
theorem Ac.grow (h : Ac w0 wr bs n B xs) {B' : Value} {m : Nat} {ys : List Int} (own : wz.ownsRow w0.heap.size 5 1 B' (xs.length + m) (xs.map (Value.int .u8) ++ ys.map (Value.int .u8))) (hg : wr.grownBy wz B.ownBlock) (hm : ys.length = m) (hy : ∀ x ∈ ys, isByte x) : Ac w0 wz bs (n + m) B' (xs ++ ys) := by
  subst hm
  rw [← List.map_append, ← List.length_append] at own
  exact ⟨fun e he => (h.box e he).ke (h.ke hg) (fun q => q.2 e he rfl), h.typ, own, by rw [List.length_append]; have := h.len; omega, fun x hx => (List.mem_append.1 hx).elim (h.byte x) (hy x), bel_own h.bel h.own hg⟩
theorem Ac.later (h : Ac w0 wr bs n B xs) (k : Nat) {g : Nat} {cs : Array Value} {t : TypeId} (e : bs[k]? = some (g, cs, t)) (x : Later (Ke (AG w0 bs) wr)) : At x.w g cs t :=
  (h.at1 k e).ke x.ok (fun q => q.2 _ (List.mem_of_getElem? e) rfl)
theorem Ac.cell (h : Ac w0 wr bs n B xs) (k : Nat) {g : Nat} {cs : Array Value} {t : TypeId} (e : bs[k]? = some (g, cs, t)) (j : Nat) {v : Value} (hv : cs[j]? = some v) (x : Later (Ke (AG w0 bs) wr)) : x.w.cell? ⟨g, j, none⟩ = some v := ((h.later k e x).cell j).trans hv
theorem Ac.old (h : Ac w0 wr bs n B xs) {p : Addr} {v : Value} (hp : p.block < w0.heap.size) (hv : w0.cell? p = some v) (x : Later (Ke (AG w0 bs) wr)) : x.w.cell? p = some v :=
  ke_cell x.ok (Nat.lt_of_lt_of_le hp h.bel.size) (fun e => Nat.not_lt.2 e.1 hp) ((h.bel.cell hp).trans hv)
theorem Ac.room (h : Ac w0 wr bs n B xs) {m : Nat} (hm : n + m ≤ 1000000) : (xs.length + m) * 1 ≤ 140737488355328 := by have := h.len; omega
theorem Ac.room' (h : Ac w0 wr bs n B xs) {m : Nat} (hm : n + m ≤ 1000000) : xs.length + m ≤ 140737488355328 := by have := h.len; omega
theorem Ac.new (h : Ac w0 wr bs n B xs) : ¬ (B.ownBlock = some wr.heap.size) := fun e => absurd (h.own.lt _ e).2 (Nat.lt_irrefl _)
theorem Ac.more (h : Ac w0 wr bs n B xs) {n' : Nat} (hn : n ≤ n') : Ac w0 wr bs n' B xs := ⟨h.box, h.typ, h.own, Nat.le_trans h.len hn, h.byte, h.bel⟩
theorem Ac.re (h : Ac w0 wr bs n B xs) {ys : List Int} (e : xs = ys) : Ac w0 wr bs n B ys := e ▸ h
theorem ac_start (w : World) (cs : Array Value) (t : TypeId) (ht : 5 ≠ t) (l : List Int) (h1 : l.length ≤ 1000) (h2 : ∀ x ∈ l, isByte x) : Ac w ((w.alloc (.cells cs t)).alloc (.cells (l.map (Value.int .u8)).toArray 5)) [(w.heap.size, cs, t)] l.length (.slice (some ⟨w.heap.size + 1, 0, none⟩) l.length l.length) l := by
  have h := own_lit8 (w.alloc (.cells cs t)) l h1 (B := w.heap.size) (by simp)
  rw [show (w.alloc (.cells cs t)).heap.size = w.heap.size + 1 by simp] at h
  exact ⟨fun e he => by obtain rfl := List.mem_singleton.1 he; exact (At.new w cs t).old _, fun e he => by obtain rfl := List.mem_singleton.1 he; exact ht, h, Nat.le_refl _, h2, bel2 w _ _⟩
theorem rd_at8r {w : World} {g : Nat} {l : List Int} (h : At w g (l.map (Value.int .u8)).toArray 5) (hb : ∀ x ∈ l, isByte x) (hl : l.length ≤ 1000) : RdI .u8 w (some ⟨g, 0, none⟩) l.length l :=
  ⟨⟨⟨g, 0, fun _ => ⟨rfl, h.lt⟩, fun j u hj => by rw [Nat.zero_add, h.cell]; simpa using hj⟩, fun h => (by cases h), Nat.le_refl _, by unfold maxLen; omega⟩, fun x hx => bd_u8' (hb x hx)⟩
theorem byte1 (n : Int) : ∀ x ∈ ([n % 256] : List Int), isByte x := fun x hx => by rw [List.mem_singleton] at hx; subst hx; exact ⟨by omega, by omega⟩
theorem byte2 (n m : Int) : ∀ x ∈ ([n % 256, m % 256] : List Int), isByte x := fun x hx => by simp only [List.mem_cons, List.not_mem_nil, or_false] at hx; rcases hx with rfl | rfl <;> exact ⟨by omega, by omega⟩
theorem byteV (v : Bool) : ∀ x ∈ ([if v then 1 else 0] : List Int), isByte x := fun x hx => by rw [List.mem_singleton] at hx; subst hx; cases v <;> exact ⟨by decide, by decide⟩

set_option maxRecDepth 100000 in
theorem refRef_walk (m i : Int) (w : World) :
    Calls Try.prog 47 #[.agg #[.int .i64 m, .int .i64 i]] w fun e w' => ∃ a c, e = .returned (.slice a 2 c) ∧ RdI .u8 w' a c (refB2 ⟨m, i⟩) ∧ Below w.heap.size w w' := by
  go_enter Try.func47, Try.ntmps47
  go_wp2
  go_ret
  have hr := rd_lit8 (w.alloc (.cells #[.int .i64 m, .int .i64 i] 30)) (refB2 ⟨m, i⟩) (refB2_byte _) (show 2 ≤ 1000 by decide)
  rw [show (w.alloc (.cells #[.int .i64 m, .int .i64 i] 30)).heap.size = w.heap.size + 1 by simp] at hr
  exact ⟨_, _, rfl, hr, bel2 _ _ _⟩

/-! ### the lists so far -/
def XA (l1 : List Imp) (k : Nat) : List Int := [(l1.length : Int) % 256] ++ (l1.take k).flatMap impF
def XB (l1 : List Imp) (l2 : List FT) (k : Nat) : List Int := (XA l1 l1.length ++ [(l2.length : Int) % 256]) ++ (l2.take k).flatMap (fun x => typF x.d)
def XC (l1 : List Imp) (l2 : List FT) (l3 : List FO) (k : Nat) : List Int := (XB l1 l2 l2.length ++ wordB ((l3.length : Int) % 4294967296)) ++ (l3.take k).flatMap (fun x => objF x.d)
def XF (p : List Int) (l : List Fld) (k : Nat) : List Int := p ++ (l.take k).flatMap fldF
def XP (p : List Int) (l : List Prm) (k : Nat) : List Int := p ++ (l.take k).flatMap prmF
theorem XA_zero (l1 : List Imp) : XA l1 0 = [(l1.length : Int) % 256] := by unfold XA; rw [List.take_zero, List.flatMap_nil, List.append_nil]
theorem XA_next {l1 : List Imp} {k : Nat} {x : Imp} (h : l1[k]? = some x) : XA l1 k ++ nameB x.name ++ wordB x.key = XA l1 (k + 1) := by
  unfold XA; rw [take_flatF h]; unfold impF; simp only [List.append_assoc]
theorem XB_zero (l1 : List Imp) (l2 : List FT) : XB l1 l2 0 = XA l1 l1.length ++ [(l2.length : Int) % 256] := by unfold XB; rw [List.take_zero, List.flatMap_nil, List.append_nil]
theorem XB_1 {l1 : List Imp} {l2 : List FT} {k : Nat} {x : FT} (h : l2[k]? = some x) (hf : x.form = 1) :
    XB l1 l2 k ++ [x.form % 256] ++ wordB (x.len % 4294967296) ++ wordB (x.size % 4294967296) ++ refB2 x.base = XB l1 l2 (k + 1) := by
  unfold XB; rw [take_flatF h, wordB_mod, wordB_mod]; unfold typF typHead FT.d
  rw [if_neg (show ¬ x.form = 2 by omega), if_pos (show x.form = 1 from hf), if_neg (show ¬ x.form = 2 by omega)]; simp only [List.append_assoc]
theorem XB_0 {l1 : List Imp} {l2 : List FT} {k : Nat} {x : FT} (h : l2[k]? = some x) (hf : x.form ≠ 1) (hf2 : x.form ≠ 2) :
    XB l1 l2 k ++ [x.form % 256] ++ refB2 x.base = XB l1 l2 (k + 1) := by
  unfold XB; rw [take_flatF h]; unfold typF typHead FT.d
  rw [if_neg (by exact hf2), if_neg (by exact hf), if_neg (by exact hf2)]; simp only [List.append_assoc, List.nil_append]
theorem XB_2 {l1 : List Imp} {l2 : List FT} {k : Nat} {x : FT} (h : l2[k]? = some x) (hf : x.form = 2) :
    XF (XB l1 l2 k ++ [x.form % 256] ++ wordB (x.size % 4294967296) ++ [(x.fields.l.length : Int) % 256]) x.fields.l x.fields.l.length = XB l1 l2 (k + 1) := by
  unfold XF XB; rw [take_flatF h, wordB_mod, take_allF]; unfold typF typHead FT.d
  rw [if_pos (by exact hf), if_pos (by exact hf)]; simp only [List.append_assoc]
theorem XF_zero (p : List Int) (l : List Fld) : XF p l 0 = p := by unfold XF; rw [List.take_zero, List.flatMap_nil, List.append_nil]
theorem XF_next {p : List Int} {l : List Fld} {k : Nat} {x : Fld} (h : l[k]? = some x) : XF p l k ++ nameB x.name ++ wordB (x.off % 4294967296) ++ refB2 x.base = XF p l (k + 1) := by
  unfold XF; rw [take_flatF h, wordB_mod]; unfold fldF; simp only [List.append_assoc]
theorem XC_zero (l1 : List Imp) (l2 : List FT) (l3 : List FO) : XC l1 l2 l3 0 = XB l1 l2 l2.length ++ wordB ((l3.length : Int) % 4294967296) := by unfold XC; rw [List.take_zero, List.flatMap_nil, List.append_nil]
theorem XC_v {l1 : List Imp} {l2 : List FT} {l3 : List FO} {k : Nat} {x : FO} (h : l3[k]? = some x) (hc : x.cls = 1 ∨ x.cls = 3) :
    XC l1 l2 l3 k ++ [x.cls % 256] ++ nameB x.name ++ refB2 x.base ++ wordB x.value = XC l1 l2 l3 (k + 1) := by
  unfold XC; rw [take_flatF h]; unfold objF objTail FO.d
  rw [if_pos (by exact hc)]; simp only [List.append_assoc]
theorem XC_0 {l1 : List Imp} {l2 : List FT} {l3 : List FO} {k : Nat} {x : FO} (h : l3[k]? = some x) (hc : ¬ (x.cls = 1 ∨ x.cls = 3)) (h4 : x.cls ≠ 4) :
    XC l1 l2 l3 k ++ [x.cls % 256] ++ nameB x.name ++ refB2 x.base = XC l1 l2 l3 (k + 1) := by
  unfold XC; rw [take_flatF h]; unfold objF objTail FO.d
  rw [if_neg (by exact hc), if_neg (by exact h4)]; simp only [List.append_assoc, List.append_nil]
theorem XC_4 {l1 : List Imp} {l2 : List FT} {l3 : List FO} {k : Nat} {x : FO} (h : l3[k]? = some x) (h4 : x.cls = 4) :
    XP (XC l1 l2 l3 k ++ [x.cls % 256] ++ nameB x.name ++ refB2 x.base ++ [x.value % 256, (x.params.l.length : Int) % 256]) x.params.l x.params.l.length = XC l1 l2 l3 (k + 1) := by
  unfold XP XC; rw [take_flatF h, take_allF]; unfold objF objTail FO.d
  rw [if_neg (show ¬ (x.cls = 1 ∨ x.cls = 3) by omega), if_pos (show x.cls = 4 from h4)]; simp only [List.append_assoc]
theorem XP_zero (p : List Int) (l : List Prm) : XP p l 0 = p := by unfold XP; rw [List.take_zero, List.flatMap_nil, List.append_nil]
theorem XP_next {p : List Int} {l : List Prm} {k : Nat} {x : Prm} (h : l[k]? = some x) : XP p l k ++ [if x.var then 1 else 0] ++ refB2 x.base = XP p l (k + 1) := by
  unfold XP; rw [take_flatF h]; unfold prmF; simp only [List.append_assoc]
theorem XC_all (f : Fc) : XC f.imps.l f.types.l f.objs.l f.objs.l.length = restF f.d := by
  unfold XC XB XA restF
  rw [take_allF, take_allF, take_allF, wordB_mod]
  show _ = [(f.imps.l.length : Int) % 256] ++ (f.imps.l.flatMap impF ++ ([((f.types.l.map FT.d).length : Int) % 256] ++ ((f.types.l.map FT.d).flatMap typF ++ (wordB ((f.objs.l.map FO.d).length) ++ (f.objs.l.map FO.d).flatMap objF))))
  rw [List.length_map, List.length_map, List.flatMap_map, List.flatMap_map]
  simp only [List.append_assoc]
end Go.Proofs.Ytfnibpkojhgflaa
