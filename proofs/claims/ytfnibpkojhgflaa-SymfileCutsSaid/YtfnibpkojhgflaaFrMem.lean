/- Own memory: things of the call's own beside each other, each with its blocks; how they go on. Over whatever program. -/
import Derived.Test.YtfnibpkojhgflaaFrOps
import Derived.Test.YtfnibpkojhgflaaLibC
import Derived.Laws.CopyRow
namespace Go.Proofs.Ytfnibpkojhgflaa
set_option linter.unusedVariables false
set_option linter.unusedSimpArgs false
open Go.RowKit

/-- a thing: its blocks, what it says. -/
structure Res where
  foot : Nat → Prop
  holds : World → Prop
  loc : ∀ {w w' : World}, (∀ b, foot b → b < w.heap.size) → (∀ b, foot b → w'.heap[b]? = w.heap[b]?) → holds w → holds w'
/-- a variable: its cells. -/
def bx (g : Nat) (cs : Array Value) (t : TypeId) : Res := ⟨fun b => b = g, fun w => At w g cs t, fun _ h k => (h g rfl).trans k⟩
/-- a slice that is appended to: what it holds. -/
def rw' (a : Option Addr) (n c : Nat) (e : TypeId) (size : Nat) (xs : List Value) : Res :=
  ⟨fun b => (Value.slice a n c).ownBlock = some b, fun w => w.ownsRow 0 e size (.slice a n c) n xs, fun _ h k => by
    obtain ⟨k1, k2⟩ := k
    refine ⟨k1, ?_⟩
    rcases k2 with k2 | ⟨g, cap, cur, hv, q1, q2, q3⟩
    · exact .inl k2
    · refine .inr ⟨g, cap, cur, hv, q1, ?_, q3⟩
      rw [h g (by rw [hv]; rfl)]; exact q2⟩
/-- the world at the beginning, and which of its blocks may be written. -/
structure Base where
  w : World
  G : Nat → Prop
instance : Coe World Base := ⟨fun w => ⟨w, fun _ => False⟩⟩
/-- what was there is as it was, but for what may be written; things of the call's own beside each other. -/
structure Mem (b0 : Base) (w : World) (L : List Res) : Prop where
  ke : Ke b0.G b0.w w
  own : ∀ r ∈ L, r.holds w ∧ ∀ b, r.foot b → (b0.w.heap.size ≤ b ∨ b0.G b) ∧ b < w.heap.size
  nd : L.Pairwise (fun r s => ∀ b, r.foot b → ¬ s.foot b)

variable {w0 : Base} {w w' : World} {L : List Res}
theorem Mem.start (w : World) : Mem w w [] := ⟨Ke.refl _ _, fun _ h => (by cases h), List.Pairwise.nil⟩
theorem Mem.bel {w0 : World} (M : Mem w0 w L) : Below w0.heap.size w0 w := M.ke.toBelow (fun _ _ h => h)
theorem Mem.call (M : Mem w0 w L) (h : Below w.heap.size w w') : Mem w0 w' L :=
  ⟨M.ke.trans (Ke.below _ h), fun r hr => by
    obtain ⟨h1, h2⟩ := M.own r hr
    exact ⟨r.loc (fun b hb => (h2 b hb).2) (fun b hb => h.block b (h2 b hb).2) h1, fun b hb => ⟨(h2 b hb).1, Nat.lt_of_lt_of_le (h2 b hb).2 h.size⟩⟩, M.nd⟩
theorem Mem.get (M : Mem w0 w L) (i : Nat) {r : Res} (h : L[i]? = some r) : r.holds w := (M.own r (List.mem_of_getElem? h)).1
theorem Mem.lo' (M : Mem w0 w L) (i : Nat) {r : Res} (h : L[i]? = some r) {b : Nat} (hb : r.foot b) : w0.w.heap.size ≤ b ∨ w0.G b := ((M.own r (List.mem_of_getElem? h)).2 b hb).1
theorem Mem.lo {w0 : World} (M : Mem w0 w L) (i : Nat) {r : Res} (h : L[i]? = some r) {b : Nat} (hb : r.foot b) : w0.heap.size ≤ b := (M.lo' i h hb).resolve_right (fun h => h)
theorem Mem.lt (M : Mem w0 w L) (i : Nat) {r : Res} (h : L[i]? = some r) {b : Nat} (hb : r.foot b) : b < w.heap.size := ((M.own r (List.mem_of_getElem? h)).2 b hb).2
theorem Mem.ne (M : Mem w0 w L) {i j : Nat} (hij : i ≠ j) {r s : Res} (hr : L[i]? = some r) (hs : L[j]? = some s) {b : Nat} (hb : r.foot b) : ¬ s.foot b := by
  obtain ⟨h1, e1⟩ := List.getElem?_eq_some_iff.1 hr
  obtain ⟨h2, e2⟩ := List.getElem?_eq_some_iff.1 hs
  rcases Nat.lt_or_gt_of_ne hij with h | h
  · have := List.pairwise_iff_getElem.1 M.nd i j h1 h2 h
    rw [e1, e2] at this; exact this b hb
  · have := List.pairwise_iff_getElem.1 M.nd j i h2 h1 h
    rw [e1, e2] at this; exact fun q => this b q hb
/-- one thing changes; its blocks are its own ones or new. -/
theorem Mem.upd (M : Mem w0 w L) (i : Nat) {r : Res} (hi : L[i]? = some r) {r' : Res} (k : Ke r.foot w w') (h' : r'.holds w') (hf : ∀ b, r'.foot b → (r.foot b ∨ w.heap.size ≤ b) ∧ b < w'.heap.size) : Mem w0 w' (L.set i r') := by
  have hlen := (List.getElem?_eq_some_iff.1 hi).1
  refine ⟨M.ke.trans' k (fun b hb q => ?_), fun s hs => ?_, ?_⟩
  · rcases M.lo' i hi q with h | h
    · omega
    · exact h
  · obtain ⟨j, hj⟩ := List.mem_iff_getElem?.1 hs
    rw [List.getElem?_set] at hj
    split at hj
    · rename_i e
      obtain rfl := Option.some.inj hj
      refine ⟨h', fun b hb => ⟨?_, (hf b hb).2⟩⟩
      rcases (hf b hb).1 with q | q
      · exact M.lo' i hi q
      · exact .inl (Nat.le_trans M.ke.size q)
    · rename_i e
      obtain ⟨q1, q2⟩ := M.own s (List.mem_of_getElem? hj)
      exact ⟨s.loc (fun b hb => (q2 b hb).2) (fun b hb => k.block b (q2 b hb).2 (fun q => M.ne e hi hj q hb)) q1, fun b hb => ⟨(q2 b hb).1, Nat.lt_of_lt_of_le (q2 b hb).2 k.size⟩⟩
  · rw [List.pairwise_iff_getElem]
    intro a b ha hb hab c hc
    have hla : a < L.length := by simpa using ha
    have hlb : b < L.length := by simpa using hb
    rw [List.getElem_set] at hc ⊢
    by_cases e1 : i = a
    · rw [if_pos e1] at hc
      rw [if_neg (by omega)]
      have hne : i ≠ b := by omega
      intro q
      rcases (hf c hc).1 with z | z
      · exact M.ne hne hi (List.getElem?_eq_getElem hlb) z q
      · have := M.lt b (List.getElem?_eq_getElem hlb) q; omega
    · rw [if_neg e1] at hc
      by_cases e2 : i = b
      · rw [if_pos e2]
        intro q
        rcases (hf c q).1 with z | z
        · exact M.ne (Ne.symm e1) (List.getElem?_eq_getElem hla) hi hc z
        · have := M.lt a (List.getElem?_eq_getElem hla) hc; omega
      · rw [if_neg e2]
        exact M.ne (by omega) (List.getElem?_eq_getElem hla) (List.getElem?_eq_getElem hlb) hc
/-- something new. -/
theorem Mem.add (M : Mem w0 w L) {r : Res} (k : Below w.heap.size w w') (h : r.holds w') (hf : ∀ b, r.foot b → w.heap.size ≤ b ∧ b < w'.heap.size) : Mem w0 w' (r :: L) := by
  have M' := M.call k
  refine ⟨M'.ke, fun s hs => ?_, List.Pairwise.cons (fun s hs b hb q => ?_) M.nd⟩
  · rcases List.mem_cons.1 hs with rfl | hs
    · exact ⟨h, fun b hb => ⟨.inl (Nat.le_trans M.ke.size (hf b hb).1), (hf b hb).2⟩⟩
    · exact M'.own s hs
  · have := ((M.own s hs).2 b q).2
    have := (hf b hb).1
    omega
/-- what has no block. -/
theorem Mem.addNil (M : Mem w0 w L) {e : TypeId} {size : Nat} : Mem w0 w (rw' none 0 0 e size [] :: L) :=
  M.add (Below.refl _ _) ⟨by simp, .inl ⟨rfl, rfl⟩⟩ (fun b hb => by cases hb)
theorem Mem.alloc (M : Mem w0 w L) (cs : Array Value) (t : TypeId) : Mem w0 (w.alloc (.cells cs t)) (bx w.heap.size cs t :: L) :=
  M.add (bel1 w _) (At.new w cs t) (fun b hb => by cases hb; simp)
theorem Mem.perm {L' : List Res} (M : Mem w0 w L) (h : L'.Sublist L) : Mem w0 w L' := ⟨M.ke, fun r hr => M.own r (h.subset hr), M.nd.sublist h⟩
/-- these things alone. -/
def keepR (L : List Res) : List Nat → List Res
  | [] => []
  | i :: is => match L[i]? with
    | some r => r :: keepR L is
    | none => keepR L is
theorem keepR_mem : ∀ (is : List Nat) {r : Res}, r ∈ keepR L is → ∃ i ∈ is, L[i]? = some r
  | [], r, h => by cases h
  | i :: is, r, h => by
    unfold keepR at h
    split at h
    · rename_i s hs
      rcases List.mem_cons.1 h with rfl | h
      · exact ⟨i, List.mem_cons_self .., hs⟩
      · obtain ⟨j, hj, e⟩ := keepR_mem is h; exact ⟨j, List.mem_cons_of_mem _ hj, e⟩
    · obtain ⟨j, hj, e⟩ := keepR_mem is h; exact ⟨j, List.mem_cons_of_mem _ hj, e⟩
def apartB : List Nat → Bool
  | [] => true
  | i :: is => is.all (fun j => !Nat.beq i j) && apartB is
theorem Mem.keep (M : Mem w0 w L) (is : List Nat) (h : apartB is = true) {L' : List Res} (e : keepR L is = L') : Mem w0 w L' := by
  subst e
  refine ⟨M.ke, fun r hr => ?_, ?_⟩
  · obtain ⟨i, _, hi⟩ := keepR_mem is hr
    exact M.own r (List.mem_of_getElem? hi)
  · induction is with
    | nil => exact List.Pairwise.nil
    | cons i is ih =>
      unfold apartB at h
      rw [Bool.and_eq_true] at h
      unfold keepR
      split
      · rename_i r hr
        refine List.Pairwise.cons (fun s hs b hb => ?_) (ih h.2)
        obtain ⟨j, hj, e⟩ := keepR_mem is hs
        have := List.all_eq_true.1 h.1 j hj
        exact M.ne (by rintro rfl; simp at this) hr e hb
      · exact ih h.2

theorem Mem.erase (M : Mem w0 w L) (i : Nat) {L' : List Res} (e : L.eraseIdx i = L') : Mem w0 w L' := by subst e; exact M.perm (List.eraseIdx_sublist L i)
theorem Mem.dropN (M : Mem w0 w L) (m : Nat) {L' : List Res} (e : L.drop m = L') : Mem w0 w L' := by subst e; exact M.perm (List.drop_sublist m L)
theorem Mem.permute {L' : List Res} (M : Mem w0 w L) (h : L.Perm L') : Mem w0 w L' :=
  ⟨M.ke, fun r hr => M.own r (h.mem_iff.2 hr), (h.pairwise_iff (fun {r s} q b hb hb' => q b hb' hb)).1 M.nd⟩
/-- the first thing goes behind all others. -/
theorem Mem.toEnd {r : Res} {L' : List Res} (M : Mem w0 w (r :: L)) (e : L ++ [r] = L') : Mem w0 w L' := by
  subst e
  exact M.permute (List.perm_append_comm (l₁ := [r]) (l₂ := L))
theorem Mem.front (M : Mem w0 w L) (i : Nat) {r : Res} {L' : List Res} (h : (L[i]?.map (fun r => r :: L.eraseIdx i)) = some (r :: L')) : Mem w0 w (r :: L') := by
  cases hi : L[i]? with
  | none => rw [hi] at h; cases h
  | some s =>
    rw [hi] at h
    simp only [Option.map_some, Option.some.injEq, List.cons.injEq] at h
    obtain ⟨rfl, rfl⟩ := h
    obtain ⟨hl, he⟩ := List.getElem?_eq_some_iff.1 hi
    refine M.permute ?_
    have := List.eraseIdx_eq_take_drop_succ (l := L) (i := i)
    have e2 : L = L.take i ++ L[i] :: L.drop (i + 1) := by rw [← List.drop_eq_getElem_cons hl, List.take_append_drop]
    rw [this]
    conv => lhs; rw [e2]
    rw [he]
    exact List.perm_middle
theorem set_tail {A B : List Res} {i j : Nat} {r : Res} (hj : A.length + i = j) : (A ++ B).set j r = A ++ B.set i r := by
  subst hj
  rw [List.set_append_right _ _ (by omega)]
  simp
theorem tail_at {A B : List Res} {i j : Nat} {r : Res} (h : B[i]? = some r) (hj : A.length + i = j) : (A ++ B)[j]? = some r := by
  subst hj
  rw [List.getElem?_append_right (by omega)]
  simpa using h

/-! ### a variable -/
theorem Mem.at (M : Mem w0 w L) (i : Nat) {g : Nat} {cs : Array Value} {t : TypeId} (h : L[i]? = some (bx g cs t)) : At w g cs t := M.get i h
theorem Mem.cell (M : Mem w0 w L) (i : Nat) {g : Nat} {cs : Array Value} {t : TypeId} (h : L[i]? = some (bx g cs t)) (j : Nat) : w.cell? ⟨g, j, none⟩ = cs[j]? := (M.at i h).cell j
/-- what lies in memory, loaded. -/
theorem ld_mid {P : Program} {b o : Nat} {cs : List Value} {t : TypeId} {d : TypeDesc} (hc : ∀ (j : Nat) (v : Value), cs[j]? = some v → w.cell? ⟨b, o + j, none⟩ = some v) (hu : P.underlying t = some d) (hd : d.isRow = true)
    (hi : (P.info? t).map (·.size) = some cs.length) {arr : Array Value} (e : cs.toArray = arr) : (Instr.loadAt t (.pointer (some ⟨b, o, none⟩))).run P w = .ok (.agg arr) w := by
  subst e; exact run_loadAt_mid w b o t cs d hc hu hd hi
theorem ld_one {P : Program} {a : Addr} {v : Value} {t : TypeId} {d : TypeDesc} (hc : w.cell? a = some v) (hu : P.underlying t = some d) (hd : d.isRow = false) : (Instr.loadAt t (.pointer (some a))).run P w = .ok v w := by
  have hagg : (isAgg t).run P w = .ok false w := by
    unfold isAgg
    rw [Sem.run_bind, run_underlying hu w]
    cases d <;> simp_all
  simp [Instr.loadAt, Instr.sureAddr, loadVar, Sem.run_bind, hagg, run_load, hc]
theorem Mem.ldBox {P : Program} (M : Mem w0 w L) (i : Nat) {g : Nat} {cs : Array Value} {t ty : TypeId} (h : L[i]? = some (bx g cs t)) {d : TypeDesc} (hu : P.underlying ty = some d) (hd : d.isRow = true) (hi : (P.info? ty).map (·.size) = some cs.size) :
    (Instr.loadAt ty (.pointer (some ⟨g, 0, none⟩))).run P w = .ok (.agg cs) w :=
  ld_mid (cs := cs.toList) (fun j v hv => by rw [Nat.zero_add, M.cell i h]; simpa using hv) hu hd (by simpa using hi) (by simp)
theorem Mem.ldCell {P : Program} (M : Mem w0 w L) (i : Nat) {g : Nat} {cs : Array Value} {t ty : TypeId} (h : L[i]? = some (bx g cs t)) {j : Nat} {v : Value} (hv : cs[j]? = some v) {d : TypeDesc} (hu : P.underlying ty = some d) (hd : d.isRow = false) :
    (Instr.loadAt ty (.pointer (some ⟨g, j, none⟩))).run P w = .ok v w := ld_one ((M.cell i h j).trans hv) hu hd
/-- a part of several cells. -/
theorem Mem.ldPart {P : Program} (M : Mem w0 w L) (i : Nat) {g : Nat} {cs : Array Value} {t ty : TypeId} (h : L[i]? = some (bx g cs t)) (o : Nat) {vs : List Value} (hv : (cs.toList.drop o).take vs.length = vs) {d : TypeDesc} (hu : P.underlying ty = some d) (hd : d.isRow = true) (hi : (P.info? ty).map (·.size) = some vs.length)
    {arr : Array Value} (e : vs.toArray = arr) : (Instr.loadAt ty (.pointer (some ⟨g, o, none⟩))).run P w = .ok (.agg arr) w :=
  ld_mid (cs := vs) (fun j v hj => by
    rw [M.cell i h, ← Array.getElem?_toList]
    rw [← hv, List.getElem?_take] at hj
    split at hj
    · rwa [List.getElem?_drop] at hj
    · cases hj) hu hd hi e
theorem Mem.st1 {P : Program} (M : Mem w0 w L) (i : Nat) {g : Nat} {cs : Array Value} {t : TypeId} (h : L[i]? = some (bx g cs t)) (j : Nat) (hj : Nat.blt j cs.size = true) (ty : TypeId) {v : Value} (h1 : v.oneCell' = true) (hi : (P.info? ty).map (·.size) = some 1) {cs' : Array Value} (hcs : cs.setIfInBounds j v = cs') :
    ∃ w', (Instr.storeAt ty (.pointer (some ⟨g, j, none⟩)) v).run P w = .ok () w' ∧ Mem w0 w' (L.set i (bx g cs' t)) ∧ Ke (· = g) w w' ∧ w'.heap.size = w.heap.size := by
  subst hcs
  have hj : j < cs.size := by simpa [Nat.blt_eq] using hj
  refine ⟨_, run_store1 (M.at i h) j hj ty v h1 hi, M.upd i h (Ke.setCell w ⟨g, j, none⟩ v) (setCell_at (M.at i h) j v) (fun b hb => ?_), Ke.setCell w ⟨g, j, none⟩ v, by simp [World.setCell]⟩
  have := M.lt i h hb
  exact ⟨.inl hb, by simpa [World.setCell] using this⟩
/-- several cells of one block are stored. -/
theorem run_stPart {P : Program} {w : World} {g : Nat} {cs : Array Value} {t : TypeId} (h : At w g cs t) (o : Nat) (ty : TypeId) {vs : Array Value} (h1 : ∀ v ∈ vs.toList, v.oneCell' = true) (hi : (P.info? ty).map (·.size) = some vs.size) (ho : o + vs.size ≤ cs.size) :
    (Instr.storeAt ty (.pointer (some ⟨g, o, none⟩)) (.agg vs)).run P w = .ok () (w.setRow g (cs.toList.take o ++ vs.toList ++ cs.toList.drop (o + vs.size)).toArray) := by
  cases hq : P.info? ty with
  | none => simp [hq] at hi
  | some it =>
    have hs : it.size = vs.size := by simpa [hq] using hi
    have := run_storeCells_at (P := P) g o t vs.toList 0 cs w h (by simpa using ho) h1
    simp only [Nat.add_zero, Array.length_toList] at this
    simp [Instr.storeAt, Instr.sureAddr, storeVar, sizeOf, typeInfo, hq, Value.cells, hs, this, Sem.run_bind]
theorem Mem.stBox {P : Program} (M : Mem w0 w L) (i : Nat) {g : Nat} {cs vs : Array Value} {t ty : TypeId} (h : L[i]? = some (bx g cs t)) (h1 : vs.toList.all (·.oneCell') = true) (hi : (P.info? ty).map (·.size) = some vs.size) (hs : Nat.beq cs.size vs.size = true) :
    ∃ w', (Instr.storeAt ty (.pointer (some ⟨g, 0, none⟩)) (.agg vs)).run P w = .ok () w' ∧ Mem w0 w' (L.set i (bx g vs t)) ∧ Ke (· = g) w w' ∧ w'.heap.size = w.heap.size := by
  have hs := Nat.eq_of_beq_eq_true hs
  have e : (cs.toList.take 0 ++ vs.toList ++ cs.toList.drop (0 + vs.size)).toArray = vs := by
    apply Array.ext'
    rw [Nat.zero_add, List.drop_eq_nil_of_le (by simp [hs])]
    simp
  have := run_stPart (P := P) (M.at i h) 0 ty (List.all_eq_true.1 h1) hi (by omega)
  rw [e] at this
  refine ⟨_, this, M.upd i h (Ke.setRow w g vs) (setRow_at (M.at i h) vs) (fun b hb => ?_), Ke.setRow w g vs, by simp [World.setRow]⟩
  have := M.lt i h hb
  exact ⟨.inl hb, by simpa [World.setRow] using this⟩
theorem Mem.stPart {P : Program} (M : Mem w0 w L) (i : Nat) {g : Nat} {cs vs : Array Value} {t ty : TypeId} (h : L[i]? = some (bx g cs t)) (o : Nat) (h1 : vs.toList.all (·.oneCell') = true) (hi : (P.info? ty).map (·.size) = some vs.size) (hs : Nat.ble (o + vs.size) cs.size = true)
    {cs' : Array Value} (hcs : (cs.toList.take o ++ vs.toList ++ cs.toList.drop (o + vs.size)).toArray = cs') :
    ∃ w', (Instr.storeAt ty (.pointer (some ⟨g, o, none⟩)) (.agg vs)).run P w = .ok () w' ∧ Mem w0 w' (L.set i (bx g cs' t)) ∧ Ke (· = g) w w' ∧ w'.heap.size = w.heap.size := by
  subst hcs
  refine ⟨_, run_stPart (P := P) (M.at i h) o ty (List.all_eq_true.1 h1) hi (Nat.le_of_ble_eq_true hs), M.upd i h (Ke.setRow w g _) (setRow_at (M.at i h) _) (fun b hb => ?_), Ke.setRow w g _, by simp [World.setRow]⟩
  have := M.lt i h hb
  exact ⟨.inl hb, by simpa [World.setRow] using this⟩

/-! ### a slice of the call's own -/
theorem own_slice {w : World} {base : Nat} {e : TypeId} {size n : Nat} {v : Value} {xs : List Value} (h : w.ownsRow base e size v n xs) : ∃ a c, v = .slice a n c := by
  rcases h.2 with ⟨rfl, rfl⟩ | ⟨g, cap, cur, rfl, _⟩
  · exact ⟨_, _, rfl⟩
  · exact ⟨_, _, rfl⟩
theorem run_append_any {P : Program} {w : World} {a : Option Addr} {n c size bytes : Nat} {e t ty : TypeId} {z : Value} {xs : List Value} (h : w.ownsRow 0 e size (.slice a n c) n xs) (ht : ET P t e z size bytes)
    {ad : Option Addr} {m cc : Nat} {news : List Value} (hr : RdC w ad m cc news) (hl : news.length = m * size) (h1 : ∀ u ∈ news, u.oneCell' = true) (hbytes : (n + m) * bytes ≤ 140737488355328) (h63 : n + m ≤ 140737488355328) :
    ∃ v' w', (Builtin.append_ #[t, t] ty #[.slice a n c, .slice ad m cc]).run P w = .ok v' w' ∧ w'.ownsRow 0 e size v' (n + m) (xs ++ news) ∧ w.grownBy w' (Value.slice a n c).ownBlock ∧ (v'.ownBlock = (Value.slice a n c).ownBlock ∨ v'.ownBlock = some w.heap.size) := by
  obtain ⟨⟨i, h2, hi, hz, hsz, hb⟩, hzs, hpos⟩ := ht
  cases ad with
  | none =>
    obtain ⟨rfl, rfl⟩ := hr.nil rfl
    have hnews : news = [] := List.length_eq_zero_iff.1 (by simpa using hl)
    subst hnews
    exact ⟨_, w, run_append_owned_none (P := P) (w := w) 0 t ty e i size h2 hi _ n xs h, by simpa using h, World.grownBy.refl _ _, .inl rfl⟩
  | some ad =>
    obtain ⟨v', w', q1, q2, q3, _, q5⟩ := run_append_own_at (P := P) w 0 t ty e i z size bytes h2 hi hz hsz hb hzs hpos _ n xs h ad m cc news hl (fun j u hj => by
      obtain ⟨b, o, h5, h6⟩ := hr.at'
      have hlen := (List.getElem?_eq_some_iff.1 hj).1
      obtain ⟨h7, h8⟩ := h5 (by omega)
      simp only [Option.some.injEq] at h7
      subst h7
      have h9 := h6 j u hj
      by_cases h0 : j = 0
      · subst h0; simpa [Addr.add] using h9
      · simpa [Addr.add, h0] using h9) h1 (by unfold maxLen; omega) hbytes (Nat.zero_le _)
    exact ⟨v', w', q1, q2, q3, q5⟩
/-- 'append(s, x...)', x whatever. -/
theorem Mem.append {P : Program} (M : Mem w0 w L) (i : Nat) {a : Option Addr} {n c size bytes : Nat} {e t ty : TypeId} {z : Value} {xs : List Value} (h : L[i]? = some (rw' a n c e size xs)) (ht : ET P t e z size bytes)
    {ad : Option Addr} {m cc : Nat} {news : List Value} (hr : RdC w ad m cc news) (hl : news.length = m * size) (h1 : ∀ u ∈ news, u.oneCell' = true) (hbytes : (n + m) * bytes ≤ 140737488355328) (h63 : n + m ≤ 140737488355328) {k' : Nat} (hk : n + m = k') :
    ∃ a' c' w', (∀ k, (builtin .append [t, t].toArray ty k [Value.slice a n c, Value.slice ad m cc].toArray).run P w = .ok (.value (.slice a' k' c')) w') ∧ Mem w0 w' (L.set i (rw' a' k' c' e size (xs ++ news))) ∧ Ke (fun b => (Value.slice a n c).ownBlock = some b) w w' := by
  subst hk
  have hown : w.ownsRow 0 e size (.slice a n c) n xs := M.get i h
  obtain ⟨v', w', q1, q2, q3, q5⟩ := run_append_any (ty := ty) hown ht hr hl h1 hbytes h63
  obtain ⟨a', c', rfl⟩ := own_slice q2
  refine ⟨a', c', w', fun k => ?_, ?_, Ke.ofGrown q3⟩
  · show (do pure (Next.value (← Builtin.append_ #[t, t] ty #[.slice a n c, .slice ad m cc])) : Sem Next).run P w = _
    rw [Sem.run_bind, q1]; rfl
  · refine M.upd i h (Ke.ofGrown q3) q2 (fun b hb => ⟨?_, ?_⟩)
    · rcases q5 with q | q
      · exact .inl (by show _ = _; rw [← q]; exact hb)
      · have hb : (Value.slice a' (n + m) c').ownBlock = some b := hb
        rw [q] at hb
        obtain rfl := Option.some.inj hb
        exact .inr (Nat.le_refl _)
    · exact (q2.lt b hb).2
theorem own_open {w : World} {a : Option Addr} {n c size : Nat} {e : TypeId} {xs : List Value} (h : w.ownsRow 0 e size (.slice a n c) n xs) (h0 : 0 < n) : ∃ g, a = some ⟨g, 0, none⟩ ∧ n ≤ c ∧ (∀ (j : Nat) (u : Value), xs[j]? = some u → w.cell? ⟨g, j, none⟩ = some u) := by
  have hc := fun g (hg : (Value.slice a n c).ownBlock = some g) => h.cells hg
  rcases h.2 with ⟨_, rfl⟩ | ⟨g, cap, cur, hv, q1, q2, q3, _⟩
  · omega
  · simp only [Value.slice.injEq] at hv
    obtain ⟨rfl, _, rfl⟩ := hv
    refine ⟨g, rfl, q3, fun j u hj => ?_⟩
    have h9 := hc g rfl j u hj
    by_cases hj0 : j = 0
    · subst hj0; simpa [Addr.add] using h9
    · simpa [Addr.add, hj0] using h9
theorem own_cap {w : World} {a : Option Addr} {n c size : Nat} {e : TypeId} {xs : List Value} (h : w.ownsRow 0 e size (.slice a n c) n xs) : n ≤ c ∧ c ≤ maxLen ∧ xs.length = n * size := by
  obtain ⟨h1, h2⟩ := h
  rcases h2 with ⟨h2, rfl⟩ | ⟨g, cap, cur, hv, q1, q2, q3, q4, _⟩
  · simp only [Value.slice.injEq] at h2; exact ⟨Nat.zero_le _, by rw [h2.2.2]; exact Nat.zero_le _, h1⟩
  · simp only [Value.slice.injEq] at hv; obtain ⟨_, _, rfl⟩ := hv; exact ⟨q3, q4, h1⟩
/-- what the row holds, as a slice that is read. -/
theorem Mem.rd (M : Mem w0 w L) (i : Nat) {a : Option Addr} {n c size : Nat} {e : TypeId} {xs : List Value} (h : L[i]? = some (rw' a n c e size xs)) : RdC w a n c xs := by
  obtain ⟨a', c', e', hr⟩ := RdC.own (M.get i h : w.ownsRow 0 e size (.slice a n c) n xs)
  simp only [Value.slice.injEq] at e'
  obtain ⟨rfl, _, rfl⟩ := e'
  exact hr
/-- an element of one cell. -/
theorem Mem.ldRow {P : Program} (M : Mem w0 w L) (i : Nat) {g n c size : Nat} {e ty : TypeId} {xs : List Value} (h : L[i]? = some (rw' (some ⟨g, 0, none⟩) n c e size xs)) (j : Nat) {v : Value} (hv : xs[j]? = some v) {d : TypeDesc} (hu : P.underlying ty = some d) (hd : d.isRow = false) {o : Nat} (ho : o = j) :
    (Instr.loadAt ty (.pointer (some ⟨g, o, none⟩))).run P w = .ok v w := by
  subst ho
  have hown : w.ownsRow 0 e size (.slice (some ⟨g, 0, none⟩) n c) n xs := M.get i h
  have hl := (own_cap hown).2.2
  have hlt := (List.getElem?_eq_some_iff.1 hv).1
  have h0 : 0 < n := by
    rcases Nat.eq_zero_or_pos n with q | q
    · subst q; omega
    · exact q
  obtain ⟨g', hg, _, hc⟩ := own_open hown h0
  simp only [Option.some.injEq, Addr.mk.injEq] at hg
  obtain ⟨rfl, _⟩ := hg
  exact ld_one (hc _ v hv) hu hd
/-- cells of the row are written. -/
theorem Mem.stRow {P : Program} (M : Mem w0 w L) (i : Nat) {g n c size : Nat} {e ty : TypeId} {xs : List Value} (h : L[i]? = some (rw' (some ⟨g, 0, none⟩) n c e size xs)) (j : Nat) (hj : j < xs.length) {v : Value} (h1 : v.oneCell' = true) (hi : (P.info? ty).map (·.size) = some 1) {xs' : List Value} (hxs : xs.set j v = xs') :
    ∃ w', (Instr.storeAt ty (.pointer (some ⟨g, j, none⟩)) v).run P w = .ok () w' ∧ Mem w0 w' (L.set i (rw' (some ⟨g, 0, none⟩) n c e size xs')) ∧ Ke (· = g) w w' ∧ w'.heap.size = w.heap.size := by
  subst hxs
  have hown : w.ownsRow 0 e size (.slice (some ⟨g, 0, none⟩) n c) n xs := M.get i h
  obtain ⟨k1, k2⟩ := hown
  rcases k2 with ⟨k2, _⟩ | ⟨g', cap, cur, hv, q1, q2, q3, q4, q5, q6⟩
  · cases k2
  · simp only [Value.slice.injEq, Option.some.injEq, Addr.mk.injEq] at hv
    obtain ⟨⟨rfl, _⟩, _, rfl⟩ := hv
    have hle : n * size ≤ cur.size := by rw [q5]; exact Nat.mul_le_mul_right _ q3
    have hjc : j < cur.size := by omega
    have hk : Ke (fun b => (Value.slice (some ⟨g, 0, none⟩) n c).ownBlock = some b) w (w.setCell ⟨g, j, none⟩ v) := (Ke.setCell w ⟨g, j, none⟩ v).mono (fun b _ hb => by show some g = some b; rw [hb])
    refine ⟨_, run_store1 q2 j hjc ty v h1 hi, M.upd i h hk ?_ (fun b hb => ⟨.inl hb, ?_⟩), Ke.setCell w ⟨g, j, none⟩ v, by simp [World.setCell]⟩
    · refine ⟨by rw [List.length_set]; exact k1, .inr ⟨g, c, cur.setIfInBounds j v, rfl, q1, setCell_at q2 j v, q3, q4, by simpa using q5, ?_⟩⟩
      rw [Array.toList_setIfInBounds, List.take_set, q6]
    · have := M.lt i h hb
      simpa [World.setCell] using this
theorem Mem.stRow' {P : Program} (M : Mem w0 w L) (i : Nat) {g n c size : Nat} {e ty : TypeId} {xs : List Value} (h : L[i]? = some (rw' (some ⟨g, 0, none⟩) n c e size xs)) (j : Nat) (hj : j < xs.length) {v : Value} (h1 : v.oneCell' = true) (hi : (P.info? ty).map (·.size) = some 1) {xs' : List Value} (hxs : xs.set j v = xs') {o : Nat} (ho : o = j) :
    ∃ w', (Instr.storeAt ty (.pointer (some ⟨g, o, none⟩)) v).run P w = .ok () w' ∧ Mem w0 w' (L.set i (rw' (some ⟨g, 0, none⟩) n c e size xs')) ∧ Ke (· = g) w w' ∧ w'.heap.size = w.heap.size := by
  subst ho
  exact M.stRow i h o hj h1 hi hxs
end Go.Proofs.Ytfnibpkojhgflaa
