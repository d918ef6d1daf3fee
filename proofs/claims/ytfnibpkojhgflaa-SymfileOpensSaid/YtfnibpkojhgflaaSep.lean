/- Blocks that are known whole, side by side: what a walk is told of the structs that it made or was handed; how that goes on over stores, calls, new blocks. No program in sight. -/
import Derived.Test.YtfnibpkojhgflaaMix
import Derived.Test.YtfnibpkojhgflaaRd
import Derived.WalkKit
import Derived.WalkSpells
import Derived.WalkLawsBesides
import Derived.Lib.Hide
import Derived.Laws.Rows
import Derived.Laws.Tables
import Derived.Deep.MidRow
import Derived.Laws.ResultCell
namespace Go.Proofs.Ytfnibpkojhgflaa
set_option linter.unusedVariables false
set_option linter.unusedSimpArgs false
open Go.RowKit

/-- block g is a struct's (an array's) own: these cells. -/
def At (w : World) (g : Nat) (cs : Array Value) (t : TypeId) : Prop := w.heap[g]? = some (.cells cs t (0, 0))

theorem At.cell {w : World} {g : Nat} {cs : Array Value} {t : TypeId} (h : At w g cs t) (j : Nat) : w.cell? ⟨g, j, none⟩ = cs[j]? := cell_of_row w g j cs t _ h
theorem At.free {w : World} {g : Nat} {cs : Array Value} {t : TypeId} (h : At w g cs t) (j : Nat) : w.frozen? ⟨g, j, none⟩ = false := frozen_of_row w g j cs t h
theorem At.lt {w : World} {g : Nat} {cs : Array Value} {t : TypeId} (h : At w g cs t) : g < w.heap.size := (Array.getElem?_eq_some_iff.1 h).1
theorem At.new (w : World) (cs : Array Value) (t : TypeId) : At (w.alloc (.cells cs t)) w.heap.size cs t := heap_alloc_new w _
theorem At.old {w : World} {g : Nat} {cs : Array Value} {t : TypeId} (h : At w g cs t) (o : Obj) : At (w.alloc o) g cs t := (Below.heap_alloc w o g h.lt).trans h
theorem At.drew {w : World} {g : Nat} {cs : Array Value} {t : TypeId} (h : At w g cs t) : At w.drew g cs t := h
theorem At.range {w : World} {g : Nat} {cs : Array Value} {t : TypeId} (h : At w g cs t) (o n : Nat) : w.rangeAt g o (cs.extract o (o + n)).toList := World.rangeAt_of_block h o n

/-- all blocks that were there are as they were, but for those in G. -/
structure Ke (G : Nat → Prop) (w w' : World) : Prop where
  os : w'.os = w.os
  tape : w'.tape = w.tape
  output : w'.output = w.output
  size : w.heap.size ≤ w'.heap.size
  block : ∀ k, k < w.heap.size → ¬ G k → w'.heap[k]? = w.heap[k]?

def Non : Nat → Prop := fun _ => False

theorem Ke.refl (G : Nat → Prop) (w : World) : Ke G w w := ⟨rfl, rfl, rfl, Nat.le_refl _, fun _ _ _ => rfl⟩
theorem Ke.trans' {G G' : Nat → Prop} {a b c : World} (h : Ke G a b) (k : Ke G' b c) (hs : ∀ i, i < a.heap.size → G' i → G i) : Ke G a c :=
  ⟨k.os.trans h.os, k.tape.trans h.tape, k.output.trans h.output, Nat.le_trans h.size k.size, fun i hi hG =>
    (k.block i (Nat.lt_of_lt_of_le hi h.size) (fun h' => hG (hs i hi h'))).trans (h.block i hi hG)⟩
theorem Ke.trans {G : Nat → Prop} {a b c : World} (h : Ke G a b) (k : Ke G b c) : Ke G a c := h.trans' k (fun _ _ h => h)
theorem Ke.mono {G G' : Nat → Prop} {a b : World} (h : Ke G a b) (hs : ∀ i, i < a.heap.size → G i → G' i) : Ke G' a b := ⟨h.os, h.tape, h.output, h.size, fun i hi hG => h.block i hi (fun h' => hG (hs i hi h'))⟩
theorem Ke.below {w w' : World} (G : Nat → Prop) (h : Below w.heap.size w w') : Ke G w w' := ⟨h.os, h.tape, h.output, h.size, fun k hk _ => h.block k hk⟩
theorem Ke.alloc {G : Nat → Prop} {a w : World} (h : Ke G a w) (o : Obj) : Ke G a (w.alloc o) := h.trans (.below G ((Below.refl _ _).alloc (Nat.le_refl _) o))
theorem Ke.drew {G : Nat → Prop} {a w : World} (h : Ke G a w) : Ke G a w.drew := ⟨h.os, h.tape, h.output, h.size, h.block⟩
theorem Ke.setCell (w : World) (p : Addr) (u : Value) : Ke (· = p.block) w (w.setCell p u) :=
  ⟨rfl, rfl, rfl, by simp [World.setCell], fun k _ hG => Below.heap_setCell _ _ _ _ hG⟩
theorem Ke.setRow (w : World) (g : Nat) (cs : Array Value) : Ke (· = g) w (w.setRow g cs) :=
  ⟨rfl, rfl, rfl, by simp [World.setRow], fun k _ hG => setRow_other w g k cs hG⟩
/-- what was written was new. -/
theorem Ke.toBelow {G : Nat → Prop} {w w' : World} (h : Ke G w w') (hG : ∀ i, i < w.heap.size → ¬ G i) : Below w.heap.size w w' := ⟨h.os, h.tape, h.output, h.size, fun k hk => h.block k hk (hG k hk)⟩
theorem Ke.non {w w' : World} (h : Ke Non w w') : Below w.heap.size w w' := h.toBelow (fun _ _ h => h)
theorem At.ke {G : Nat → Prop} {w w' : World} {g : Nat} {cs : Array Value} {t : TypeId} (h : At w g cs t) (k : Ke G w w') (hG : ¬ G g) : At w' g cs t := (k.block g h.lt hG).trans h
theorem At.bel {w w' : World} {g : Nat} {cs : Array Value} {t : TypeId} (h : At w g cs t) (k : Below w.heap.size w w') : At w' g cs t := (k.block g h.lt).trans h

/-! ### several blocks -/
abbrev Row := Nat × Array Value × TypeId
structure Sep (w : World) (l : List Row) : Prop where
  row : ∀ e ∈ l, At w e.1 e.2.1 e.2.2
  nd : l.Pairwise (fun a b => a.1 ≠ b.1)

theorem Sep.nil (w : World) : Sep w [] := ⟨fun _ h => (List.not_mem_nil h).elim, List.Pairwise.nil⟩
theorem Sep.at {w : World} {l : List Row} (h : Sep w l) (k : Nat) {g : Nat} {cs : Array Value} {t : TypeId} (e : l[k]? = some (g, cs, t)) : At w g cs t := h.row _ (List.mem_of_getElem? e)
theorem Sep.cons {w : World} {l : List Row} (h : Sep w l) {g : Nat} {cs : Array Value} {t : TypeId} (ha : At w g cs t) (hn : ∀ e ∈ l, g ≠ e.1) : Sep w ((g, cs, t) :: l) :=
  ⟨fun e he => by rcases List.mem_cons.1 he with rfl | he; exact ha; exact h.row e he, List.Pairwise.cons hn h.nd⟩
theorem Sep.one {w : World} {g : Nat} {cs : Array Value} {t : TypeId} (ha : At w g cs t) : Sep w [(g, cs, t)] := (Sep.nil w).cons ha (fun _ h => (List.not_mem_nil h).elim)
/-- a new block. -/
theorem Sep.alloc {w : World} {l : List Row} (h : Sep w l) (cs : Array Value) (t : TypeId) : Sep (w.alloc (.cells cs t)) ((w.heap.size, cs, t) :: l) :=
  ⟨fun e he => by rcases List.mem_cons.1 he with rfl | he; exact At.new w cs t; exact (h.row e he).old _,
   List.Pairwise.cons (fun e he => Nat.ne_of_gt (h.row e he).lt) h.nd⟩
theorem Sep.other {w : World} {l : List Row} (h : Sep w l) (o : Obj) : Sep (w.alloc o) l := ⟨fun e he => (h.row e he).old o, h.nd⟩
theorem Sep.drew {w : World} {l : List Row} (h : Sep w l) : Sep w.drew l := ⟨fun e he => (h.row e he).drew, h.nd⟩
theorem Sep.bel {w w' : World} {l : List Row} (h : Sep w l) (k : Below w.heap.size w w') : Sep w' l := ⟨fun e he => (h.row e he).bel k, h.nd⟩
theorem Sep.ke {G : Nat → Prop} {w w' : World} {l : List Row} (h : Sep w l) (k : Ke G w w') (hG : ∀ e ∈ l, ¬ G e.1) : Sep w' l := ⟨fun e he => (h.row e he).ke k (hG e he), h.nd⟩
theorem Sep.drop1 {w : World} {e : Row} {l : List Row} (h : Sep w (e :: l)) : Sep w l := ⟨fun x hx => h.row x (List.mem_cons_of_mem _ hx), (List.pairwise_cons.1 h.nd).2⟩
theorem Sep.ne {w : World} {l : List Row} (h : Sep w l) (i j : Nat) (hij : i < j) {a b : Row} (ha : l[i]? = some a) (hb : l[j]? = some b) : a.1 ≠ b.1 := by
  obtain ⟨h1, e1⟩ := List.getElem?_eq_some_iff.1 ha
  obtain ⟨h2, e2⟩ := List.getElem?_eq_some_iff.1 hb
  have := List.pairwise_iff_getElem.1 h.nd i j h1 h2 hij
  rw [e1, e2] at this; exact this
theorem Sep.alloc2 {w : World} {l : List Row} (h : Sep w l) (cs cs' : Array Value) (t t' : TypeId) : Sep ((w.alloc (.cells cs t)).alloc (.cells cs' t')) ((w.heap.size + 1, cs', t') :: (w.heap.size, cs, t) :: l) := by
  have := (h.alloc cs t).alloc cs' t'
  rwa [show (w.alloc (.cells cs t)).heap.size = w.heap.size + 1 from by simp] at this
theorem Sep.alloc3 {w : World} {l : List Row} (h : Sep w l) (cs cs' cs'' : Array Value) (t t' t'' : TypeId) : Sep (((w.alloc (.cells cs t)).alloc (.cells cs' t')).alloc (.cells cs'' t'')) ((w.heap.size + 2, cs'', t'') :: (w.heap.size + 1, cs', t') :: (w.heap.size, cs, t) :: l) := by
  have := (h.alloc2 cs cs' t t').alloc cs'' t''
  rwa [show ((w.alloc (.cells cs t)).alloc (.cells cs' t')).heap.size = w.heap.size + 2 from by simp] at this
theorem bel1 (w : World) (o : Obj) : Below w.heap.size w (w.alloc o) := (Below.refl _ _).alloc (Nat.le_refl _) o
theorem bel2 (w : World) (o o' : Obj) : Below w.heap.size w ((w.alloc o).alloc o') := bel_then (bel1 w o) (bel1 _ o')
theorem bel3 (w : World) (o o' o'' : Obj) : Below w.heap.size w (((w.alloc o).alloc o').alloc o'') := bel_then (bel2 w o o') (bel1 _ o'')
/-- one block is written, by whatever. -/
theorem Sep.upd {w w' : World} {l : List Row} (h : Sep w l) (k : Nat) {g : Nat} {cs : Array Value} {t : TypeId} (e : l[k]? = some (g, cs, t)) {cs' : Array Value} (ha : At w' g cs' t) (hk : Ke (· = g) w w') : Sep w' (l.set k (g, cs', t)) := by
  obtain ⟨hk1, hk2⟩ := List.getElem?_eq_some_iff.1 e
  have hm : ∀ (i : Nat) (hi : i < (l.set k (g, cs', t)).length), (l.set k (g, cs', t))[i].1 = (l[i]'(by simpa using hi)).1 := fun i hi => by
    rw [List.getElem_set]
    split
    · rename_i hh; subst hh; rw [hk2]
    · rfl
  refine ⟨fun x hx => ?_, ?_⟩
  · obtain ⟨i, hi, rfl⟩ := List.mem_iff_getElem.1 hx
    have hi' : i < l.length := by simpa using hi
    by_cases hik : k = i
    · subst hik; rw [List.getElem_set_self]; exact ha
    · rw [List.getElem_set_ne hik]
      refine (h.row _ (List.getElem_mem hi')).ke hk ?_
      have hp := List.pairwise_iff_getElem.1 h.nd
      intro hh
      rcases Nat.lt_or_gt_of_ne hik with h1 | h1
      · exact hp k i hk1 hi' h1 (by rw [hk2]; exact hh.symm)
      · exact hp i k hi' hk1 h1 (by rw [hk2]; exact hh)
  · rw [List.pairwise_iff_getElem]
    intro i j hi hj hij
    rw [hm i hi, hm j hj]
    exact List.pairwise_iff_getElem.1 h.nd i j _ _ hij

/-! ### the laws -/
section
variable {P : Program} {ops : Array Oper} {rest : List Oper} {o : Oper} {a : Act} {w : World} {Q : Exit → Act → World → Prop}

theorem setRow_at {w : World} {g : Nat} {cs : Array Value} {t : TypeId} (h : At w g cs t) (cs' : Array Value) : At (w.setRow g cs') g cs' t := setRow_heap w g cs cs' t _ h
theorem setCell_at {w : World} {g : Nat} {cs : Array Value} {t : TypeId} (h : At w g cs t) (j : Nat) (u : Value) : At (w.setCell ⟨g, j, none⟩ u) g (cs.setIfInBounds j u) t := heap_setCell_same w g j cs t u h

/-- a whole struct is stored at a block's head. -/
theorem store_sep (hgd : o.guard = none) (ty : TypeId) (x y : Operand) (ho : o.op = .store ty x y) {l : List Row} (H : Sep w l) (k : Nat)
    {g : Nat} {old cells : Array Value} {t : TypeId} (hx : a.eval x = .pointer (some ⟨g, 0, none⟩)) (hy : a.eval y = .agg cells) (e : l[k]? = some (g, old, t))
    (hi : (P.info? ty).map (·.size) = some cells.size) (hold : old.size = cells.size) (h1 : cells.toList.all (·.oneCell') = true)
    (h : ∀ w', Sep w' (l.set k (g, cells, t)) → Ke (· = g) w w' → w'.heap.size = w.heap.size → wpList P ops Q rest (a.put o.dst undef) w') : wpList P ops Q (o :: rest) a w :=
  wpList_store_row hgd ty x y ho g cells hx hy t old (H.at k e) hi hold (by simpa using h1)
    (h _ (H.upd k e (setRow_at (H.at k e) cells) (Ke.setRow w g cells)) (Ke.setRow w g cells) (by simp))

/-- a whole struct is loaded from a block's head. -/
theorem load_sep (hgd : o.guard = none) (ty : TypeId) (x : Operand) (ho : o.op = .load ty x) {l : List Row} (H : Sep w l) (k : Nat)
    {g : Nat} {cs : Array Value} {t : TypeId} (hx : a.eval x = .pointer (some ⟨g, 0, none⟩)) (e : l[k]? = some (g, cs, t)) {d : TypeDesc} (hu : P.underlying ty = some d) (hd : d.isRow = true)
    (hi : (P.info? ty).map (·.size) = some cs.size) (h : wpList P ops Q rest (a.put o.dst (.agg cs)) w) : wpList P ops Q (o :: rest) a w := by
  refine wpList_load_mid hgd ty x ho g 0 hx cs.toList d (fun j v hv => ?_) hu hd (by simpa using hi) (by simpa using h)
  rw [(H.at k e).cell]; simpa using hv

end

theorem run_store1 {P : Program} {w : World} {g : Nat} {cs : Array Value} {t : TypeId} (h : At w g cs t) (j : Nat) (hj : j < cs.size) (ty : TypeId) (v : Value) (h1 : v.oneCell' = true) (hi : (P.info? ty).map (·.size) = some 1) :
    (Instr.storeAt ty (.pointer (some ⟨g, j, none⟩)) v).run P w = .ok () (w.setCell ⟨g, j, none⟩ v) := by
  have hcs : v.cells = #[v] := by cases v <;> first | rfl | (simp [Value.oneCell'] at h1)
  have hst : (store ⟨g, j, none⟩ v).run P w = .ok () (w.setCell ⟨g, j, none⟩ v) := by
    rw [run_store P w _ v _ h1, h.cell j, Array.getElem?_eq_getElem hj]
    simp [h.free j]
  have hadd : (⟨g, j, none⟩ : Addr).add 0 = ⟨g, j, none⟩ := by unfold Addr.add; simp
  cases hq : P.info? ty with
  | none => simp [hq] at hi
  | some i =>
    have hs : i.size = 1 := by simpa [hq] using hi
    simp [Instr.storeAt, Instr.sureAddr, storeVar, sizeOf, typeInfo, hq, hcs, hs, storeCells, hadd, hst, Sem.run_bind]

/-- one cell of a struct is stored. -/
theorem store1_sep {P : Program} {ops : Array Oper} {rest : List Oper} {o : Oper} {a : Act} {w : World} {Q : Exit → Act → World → Prop} (hgd : o.guard = none) (ty : TypeId) (x y : Operand) (ho : o.op = .store ty x y) {l : List Row} (H : Sep w l) (k : Nat)
    {g j : Nat} {old : Array Value} {t : TypeId} {v : Value} (hx : a.eval x = .pointer (some ⟨g, j, none⟩)) (hy : a.eval y = v) (e : l[k]? = some (g, old, t))
    (hj : decide (j < old.size) = true) (hi : (P.info? ty).map (·.size) = some 1) (h1 : v.oneCell' = true)
    (h : ∀ w', Sep w' (l.set k (g, old.setIfInBounds j v, t)) → Ke (· = g) w w' → w'.heap.size = w.heap.size → wpList P ops Q rest (a.put o.dst undef) w') : wpList P ops Q (o :: rest) a w := by
  have hk := Ke.setCell w ⟨g, j, none⟩ v
  have hh := h _ (H.upd k e (setCell_at (H.at k e) j v) hk) hk (by simp [World.setCell])
  refine wpList_plain hgd fun K hK => ?_
  unfold Oper.wp execOp
  simp only [ho, hx, hy, Sem.run_bind, run_store1 (P := P) (H.at k e) j (of_decide_eq_true hj) ty v h1 hi, Result.andThen_ok]
  exact hK _ _ hh

/-! ### results that lie in blocks -/
theorem At.var {P : Program} {w : World} {g : Nat} {cs : Array Value} {t : TypeId} (h : At w g cs t) {ty : TypeId} {d : TypeDesc} (hu : P.underlying ty = some d) (hd : d.isRow = true) (hi : (P.info? ty).map (·.size) = some cs.size) :
    (loadVar ty ⟨g, 0, none⟩).run P w = .ok (.agg cs) w := by
  have := run_loadVar_mid (P := P) w g 0 ty cs.toList d (fun j v hv => by rw [h.cell]; simpa using hv) hu hd (by simpa using hi)
  simpa using this

theorem res_cell {P : Program} {fn : Func} {p : Tmp} {ty : TypeId} (h : fn.results = #[.cell p ty]) {tmps : Array Value} {w : World} {g : Nat} {cs : Array Value} {t : TypeId}
    (hp : tmps.getD p undef = .pointer (some ⟨g, 0, none⟩)) (ha : At w g cs t) {d : TypeDesc} (hu : P.underlying ty = some d) (hd : d.isRow = true) (hi : (P.info? ty).map (·.size) = some cs.size) :
    (results fn tmps).run P w = .ok (.agg cs) w := by
  have hp' : tmps[p]?.getD undef = .pointer (some ⟨g, 0, none⟩) := by simpa using hp
  simp only [results, h]
  simp [Sem.run_bind, Result.andThen, hp', asAddr, ha.var hu hd hi]

theorem res_cell_tmp {P : Program} {fn : Func} {p u : Tmp} {ty : TypeId} (h : fn.results = #[.cell p ty, .tmp u]) {tmps : Array Value} {w : World} {g : Nat} {cs : Array Value} {t : TypeId}
    (hp : tmps.getD p undef = .pointer (some ⟨g, 0, none⟩)) (ha : At w g cs t) {d : TypeDesc} (hu : P.underlying ty = some d) (hd : d.isRow = true) (hi : (P.info? ty).map (·.size) = some cs.size) :
    (results fn tmps).run P w = .ok (.tuple #[.agg cs, tmps.getD u undef]) w := by
  rw [results_cell_tmp h, hp]
  simp [asAddr, ha.var hu hd hi, Result.andThen]

theorem res_cell_cell {P : Program} {fn : Func} {p q : Tmp} {ty ty' : TypeId} (h : fn.results = #[.cell p ty, .cell q ty']) {tmps : Array Value} {w : World} {g g' : Nat} {cs cs' : Array Value} {t t' : TypeId}
    (hp : tmps.getD p undef = .pointer (some ⟨g, 0, none⟩)) (ha : At w g cs t) {d : TypeDesc} (hu : P.underlying ty = some d) (hd : d.isRow = true) (hi : (P.info? ty).map (·.size) = some cs.size)
    (hq : tmps.getD q undef = .pointer (some ⟨g', 0, none⟩)) (ha' : At w g' cs' t') {d' : TypeDesc} (hu' : P.underlying ty' = some d') (hd' : d'.isRow = true) (hi' : (P.info? ty').map (·.size) = some cs'.size) :
    (results fn tmps).run P w = .ok (.tuple #[.agg cs, .agg cs']) w := by
  have hp' : tmps[p]?.getD undef = .pointer (some ⟨g, 0, none⟩) := by simpa using hp
  have hq' : tmps[q]?.getD undef = .pointer (some ⟨g', 0, none⟩) := by simpa using hq
  simp only [results, h]
  simp [Sem.run_bind, Result.andThen, hp', hq', asAddr, ha.var hu hd hi, ha'.var hu' hd' hi']

end Go.Proofs.Ytfnibpkojhgflaa
