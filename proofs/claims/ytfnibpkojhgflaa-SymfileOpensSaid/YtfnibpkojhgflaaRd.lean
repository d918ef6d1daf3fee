/- What a walk is told of a slice: its cells, as a list; how that is handed on from world to world. No program in sight. -/
import Derived.WalkKit
import Derived.WalkSpells
import Derived.WalkLawsBesides
import Derived.Lib.Hide
import Derived.Handy
import Derived.Laws.AppendOwnNone
namespace Go.Proofs.Ytfnibpkojhgflaa
open Go.RowKit

theorem ret_int {k : IntKind} {a b : Int} (h : a = b) : Ending.returned (.int k a) = .returned (.int k b) := by rw [h]
theorem ret_bool {a b : Bool} (h : a = b) : Ending.returned (.bool a) = .returned (.bool b) := by rw [h]

/-- The slice value '.slice a n c' leads to the cells 'cs' (whatever the size of an element). -/
structure RdC (w : World) (a : Option Addr) (n c : Nat) (cs : List Value) : Prop where
  at' : ∃ b o, (0 < cs.length → a = some ⟨b, o, none⟩ ∧ b < w.heap.size) ∧ ∀ (j : Nat) (u : Value), cs[j]? = some u → w.cell? ⟨b, o + j, none⟩ = some u
  nil : a = none → n = 0 ∧ c = 0
  le : n ≤ c
  cap : c ≤ maxLen

theorem RdC.below {w w' : World} {a : Option Addr} {n c : Nat} {cs : List Value} {B : Nat} (h : RdC w a n c cs) (hb : Below B w w') (hB : w.heap.size ≤ B) : RdC w' a n c cs := by
  obtain ⟨⟨b, o, h1, h2⟩, h3, h4, h5⟩ := h
  refine ⟨⟨b, o, fun h0 => ⟨(h1 h0).1, Nat.lt_of_lt_of_le (h1 h0).2 hb.size⟩, fun i u hi => ?_⟩, h3, h4, h5⟩
  have hlen : i < cs.length := by
    rcases Nat.lt_or_ge i cs.length with h | h
    · exact h
    · rw [List.getElem?_eq_none h] at hi; cases hi
  have hlt := (h1 (by omega)).2
  exact (hb.cell (p := ⟨b, o + i, none⟩) (by show b < B; omega)).trans (h2 i u hi)

theorem RdC.nilSlice (w : World) : RdC w none 0 0 [] := ⟨⟨0, 0, fun h => by simp at h, fun j u h => by simp at h⟩, fun _ => ⟨rfl, rfl⟩, Nat.le_refl _, Nat.zero_le _⟩

/-- What the call's own memory holds. -/
theorem RdC.own {w : World} {base : Nat} {e : TypeId} {size : Nat} {v : Value} {n : Nat} {xs : List Value} (h : w.ownsRow base e size v n xs) : ∃ a c, v = .slice a n c ∧ RdC w a n c xs := by
  have hl := h.lt
  have hc := fun g (hg : v.ownBlock = some g) => h.cells hg
  obtain ⟨h1, h2⟩ := h
  rcases h2 with ⟨rfl, rfl⟩ | ⟨g, cap, cur, rfl, hb, hh, hle, hm, hy, hz⟩
  · have : xs = [] := List.length_eq_zero_iff.1 (by simpa using h1)
    subst this
    exact ⟨none, 0, rfl, RdC.nilSlice w⟩
  · refine ⟨_, cap, rfl, ⟨g, 0, fun _ => ⟨rfl, (hl g rfl).2⟩, fun j u hj => ?_⟩, (fun h => by cases h), hle, hm⟩
    have h9 := hc g rfl j u hj
    by_cases h0 : j = 0
    · subst h0; simpa [Addr.add] using h9
    · simpa [Addr.add, h0] using h9

/-- numbers of one kind. -/
structure RdI (k : IntKind) (w : World) (a : Option Addr) (c : Nat) (l : List Int) : Prop where
  row : RdC w a l.length c (l.map (Value.int k))
  bd : ∀ x ∈ l, k.min ≤ x ∧ x ≤ k.max

theorem RdI.below {k : IntKind} {w w' : World} {a : Option Addr} {c : Nat} {l : List Int} {B : Nat} (h : RdI k w a c l) (hb : Below B w w') (hB : w.heap.size ≤ B) : RdI k w' a c l :=
  ⟨h.row.below hb hB, h.bd⟩

theorem RdI.len {k : IntKind} {w : World} {a : Option Addr} {c : Nat} {l : List Int} (h : RdI k w a c l) : l.length ≤ 9223372036854775807 := by
  have := h.row.le; have := h.row.cap; unfold maxLen at *; omega

/-- element i. -/
theorem RdI.cells {k : IntKind} {w : World} {a : Option Addr} {c : Nat} {l : List Int} (h : RdI k w a c l) :
    ∃ b o, (0 < l.length → a = some ⟨b, o, none⟩ ∧ b < w.heap.size) ∧ ∀ i, i < l.length → w.cell? ⟨b, o + i, none⟩ = some (.int k (l.getD i 0)) := by
  obtain ⟨b, o, h1, h2⟩ := h.row.at'
  refine ⟨b, o, fun h0 => h1 (by simpa using h0), fun i hi => h2 i _ ?_⟩
  rw [List.getElem?_map, List.getElem?_eq_getElem hi, List.getD_eq_getElem?_getD, List.getElem?_eq_getElem hi]; rfl

theorem RdI.kind {k : IntKind} {w : World} {a : Option Addr} {c : Nat} {l : List Int} (h : RdI k w a c l) (i : Nat) (hi : i < l.length) : k.min ≤ l.getD i 0 ∧ l.getD i 0 ≤ k.max :=
  h.bd _ (by rw [List.getD_eq_getElem?_getD, List.getElem?_eq_getElem hi]; exact List.getElem_mem hi)

theorem bd_u8 {x : Int} (h : IntKind.u8.min ≤ x ∧ x ≤ IntKind.u8.max) : 0 ≤ x ∧ x < 256 := by
  simp [IntKind.min, IntKind.max, IntKind.bits, IntKind.signed] at h; omega
theorem bd_u8' {x : Int} (h : 0 ≤ x ∧ x < 256) : IntKind.u8.min ≤ x ∧ x ≤ IntKind.u8.max := by
  simp [IntKind.min, IntKind.max, IntKind.bits, IntKind.signed]; omega
theorem bd_u32 {x : Int} (h : IntKind.u32.min ≤ x ∧ x ≤ IntKind.u32.max) : 0 ≤ x ∧ x < 4294967296 := by
  simp [IntKind.min, IntKind.max, IntKind.bits, IntKind.signed] at h; omega
theorem bd_u32' {x : Int} (h : 0 ≤ x ∧ x < 4294967296) : IntKind.u32.min ≤ x ∧ x ≤ IntKind.u32.max := by
  simp [IntKind.min, IntKind.max, IntKind.bits, IntKind.signed]; omega
theorem bd_i64 {x : Int} (h : IntKind.i64.min ≤ x ∧ x ≤ IntKind.i64.max) : -9223372036854775808 ≤ x ∧ x ≤ 9223372036854775807 := by
  simp [IntKind.min, IntKind.max, IntKind.bits, IntKind.signed] at h; omega
theorem bd_i64' {x : Int} (h : -9223372036854775808 ≤ x ∧ x ≤ 9223372036854775807) : IntKind.i64.min ≤ x ∧ x ≤ IntKind.i64.max := by
  simp [IntKind.min, IntKind.max, IntKind.bits, IntKind.signed]; omega

theorem RdI.u8 {w : World} {a : Option Addr} {c : Nat} {l : List Int} (h : RdI .u8 w a c l) (i : Nat) (hi : i < l.length) : 0 ≤ l.getD i 0 ∧ l.getD i 0 < 256 := bd_u8 (h.kind i hi)
theorem RdI.u32 {w : World} {a : Option Addr} {c : Nat} {l : List Int} (h : RdI .u32 w a c l) (i : Nat) (hi : i < l.length) : 0 ≤ l.getD i 0 ∧ l.getD i 0 < 4294967296 := bd_u32 (h.kind i hi)

/-- out of an argument's reading. -/
theorem bd_of_wf {k : IntKind} {x : Int} (h : (Lit.int k x).wf = true) : k.min ≤ x ∧ x ≤ k.max := by simpa [Lit.wf] using h

/-- a slice of the call's own. -/
theorem RdI.own {k : IntKind} {w : World} {base : Nat} {e : TypeId} {v : Value} {n : Nat} {l : List Int} (h : w.ownsRow base e 1 v n (l.map (Value.int k))) (hb : ∀ x ∈ l, k.min ≤ x ∧ x ≤ k.max) :
    ∃ a c, v = .slice a l.length c ∧ RdI k w a c l := by
  have hn : n = l.length := by have := h.1; simpa using this.symm
  subst hn
  obtain ⟨a, c, hv, hr⟩ := RdC.own h
  exact ⟨a, c, hv, hr, hb⟩

/-- 's[:n]'. -/
theorem RdI.take {k : IntKind} {w : World} {b o c : Nat} {l : List Int} (h : RdI k w (some ⟨b, o, none⟩) c l) (n : Nat) (hn : n ≤ l.length) : RdI k w (some ⟨b, o, none⟩) c (l.take n) ∧ (l.take n).length = n := by
  have hlen : (l.take n).length = n := by rw [List.length_take]; omega
  obtain ⟨⟨⟨b', o', h1, h2⟩, h3, h4, h5⟩, hb⟩ := h
  refine ⟨⟨⟨⟨b', o', fun h0 => h1 (by simp at h0 ⊢; omega), fun j u hj => h2 j u ?_⟩, (fun h => by cases h), by omega, h5⟩, fun x hx => hb x (List.mem_of_mem_take hx)⟩, hlen⟩
  rw [List.map_take, List.getElem?_take] at hj
  split at hj
  · exact hj
  · cases hj

/-- 's[n:]'. -/
theorem RdI.drop {k : IntKind} {w : World} {b o c : Nat} {l : List Int} (h : RdI k w (some ⟨b, o, none⟩) c l) (n : Nat) (hn : n ≤ l.length) :
    RdI k w (if c = n then some ⟨b, o, none⟩ else some ⟨b, o + n, none⟩) (c - n) (l.drop n) ∧ (l.drop n).length = l.length - n := by
  obtain ⟨⟨⟨b', o', h1, h2⟩, h3, h4, h5⟩, hb⟩ := h
  refine ⟨⟨⟨⟨b', o' + n, fun h0 => ?_, fun j u hj => ?_⟩, (fun h => by split at h <;> cases h), by simp; omega, by omega⟩, fun x hx => hb x (List.mem_of_mem_drop hx)⟩, List.length_drop⟩
  · have h6 := h1 (by simp at h0 ⊢; omega)
    simp at h0
    rw [if_neg (by omega)]
    obtain ⟨h7, h8⟩ := h6
    simp only [Option.some.injEq, Addr.mk.injEq] at h7
    exact ⟨by rw [h7.1, h7.2.1], h8⟩
  · rw [List.map_drop, List.getElem?_drop] at hj
    rw [Nat.add_assoc]
    exact h2 _ u hj
/-- lists of numbers: a slice of slices. -/
structure RdII (k : IntKind) (w : World) (a : Option Addr) (c : Nat) (ls : List (List Int)) : Prop where
  at' : ∃ b o, (0 < ls.length → a = some ⟨b, o, none⟩ ∧ b < w.heap.size) ∧ ∀ i, i < ls.length → ∃ x d, w.cell? ⟨b, o + i, none⟩ = some (.slice x (ls.getD i []).length d) ∧ RdI k w x d (ls.getD i [])
  nil : a = none → c = 0
  le : ls.length ≤ c
  cap : c ≤ maxLen

theorem RdII.below {k : IntKind} {w w' : World} {a : Option Addr} {c : Nat} {ls : List (List Int)} {B : Nat} (h : RdII k w a c ls) (hb : Below B w w') (hB : w.heap.size ≤ B) : RdII k w' a c ls := by
  obtain ⟨⟨b, o, h1, h2⟩, h3, h4, h5⟩ := h
  refine ⟨⟨b, o, fun h0 => ⟨(h1 h0).1, Nat.lt_of_lt_of_le (h1 h0).2 hb.size⟩, fun i hi => ?_⟩, h3, h4, h5⟩
  have hlt := (h1 (by omega)).2
  obtain ⟨x, d, h6, h7⟩ := h2 i hi
  exact ⟨x, d, (hb.cell (p := ⟨b, o + i, none⟩) (by show b < B; omega)).trans h6, h7.below hb hB⟩

theorem RdII.len {k : IntKind} {w : World} {a : Option Addr} {c : Nat} {ls : List (List Int)} (h : RdII k w a c ls) : ls.length ≤ 9223372036854775807 := by
  have := h.le; have := h.cap; unfold maxLen at *; omega

/-- a list of one slice, as 'buildSlice' lays it. -/
theorem RdII.one {k : IntKind} {w : World} {a : Option Addr} {l : List Int} {c : Nat} (t : TypeId) (h : RdI k w a c l) :
    RdII k (w.alloc (.cells #[.slice a l.length c] t)) (some ⟨w.heap.size, 0, none⟩) 1 [l] := by
  refine ⟨⟨w.heap.size, 0, fun _ => ⟨rfl, by simp⟩, fun i hi => ?_⟩, (fun h => by cases h), Nat.le_refl _, by unfold maxLen; simp⟩
  have hi0 : i = 0 := by simp at hi; omega
  subst hi0
  exact ⟨a, c, by simp [go_sem], h.below ((Below.refl _ w).alloc (Nat.le_refl _) _) (Nat.le_refl _)⟩

/-- what a program's tables say of a slice's type and its element's. -/
structure ET (P : Program) (t e : TypeId) (z : Value) (size bytes : Nat) : Prop where
  ex : ∃ i : TypeInfo, P.underlying t = some (.slice e) ∧ P.info? e = some i ∧ i.zero = some z ∧ i.size = size ∧ i.bytes = bytes
  zs : z.cells.size = size
  pos : 0 < size

theorem ET.of {P : Program} {t e : TypeId} {z : Value} {size bytes : Nat} (h1 : P.underlying t = some (.slice e)) (h2 : (P.info? e).map (fun i => (i.zero, i.size, i.bytes)) = some (some z, size, bytes)) (h3 : z.cells.size = size) (h4 : 0 < size) : ET P t e z size bytes := by
  obtain ⟨i, hi, hz, hs, hb⟩ := info_parts h2
  exact ⟨⟨i, h1, hi, hz, hs, hb⟩, h3, h4⟩

/-- 'append(v, x...)', v the call's own, x whatever. -/
theorem append_rd {P : Program} {w : World} {ops : Array Oper} {rest : List Oper} {o : Oper} {a : Act} {Q : Exit → Act → World → Prop} (hgd : o.guard = none)
    (s x : Operand) {t e : TypeId} {z : Value} {size bytes : Nat} (ht : ET P t e z size bytes) (ho : o.op = .call { callee := .builtin .append, args := #[s, x], argTypes := #[t, t] }) (base : Nat)
    {v : Value} {n : Nat} {xs : List Value} (hs : a.eval s = v) (hown : w.ownsRow base e size v n xs) {ad : Option Addr} {m c : Nat} {news : List Value}
    (hx : a.eval x = .slice ad m c) (hr : RdC w ad m c news) (hl : news.length = m * size) (h1 : ∀ u ∈ news, u.oneCell' = true)
    (hbytes : (n + m) * bytes ≤ 140737488355328) (h63 : n + m ≤ 140737488355328) (hbase : base ≤ w.heap.size)
    (h : ∀ (v' : Value) (w' : World), w'.ownsRow base e size v' (n + m) (xs ++ news) → w.grownBy w' v.ownBlock → wpList P ops Q rest (a.put o.dst v') w') :
    wpList P ops Q (o :: rest) a w := by
  obtain ⟨⟨i, h2, hi, hz, hsz, hb⟩, hzs, hpos⟩ := ht
  cases ad with
  | none =>
    obtain ⟨rfl, rfl⟩ := hr.nil rfl
    have hnews : news = [] := List.length_eq_zero_iff.1 (by simpa using hl)
    subst hnews
    refine wpList_append_own_none hgd s x t ho base e i size h2 hi v n xs hs hown hx (h v w (by simpa using hown) ?_)
    exact World.grownBy.refl _ _
  | some ad =>
    refine wpList_append_own w hgd s x t ho base e i z size bytes h2 hi hz hsz hb hzs hpos v n xs hs hown ad m c news hx hl ?_ h1 (by unfold maxLen; omega) hbytes hbase (fun v' w' g1 g2 _ => h v' w' g1 g2)
    intro j u hj
    obtain ⟨b, o, h5, h6⟩ := hr.at'
    have hlen : j < news.length := by
      rcases Nat.lt_or_ge j news.length with h | h
      · exact h
      · rw [List.getElem?_eq_none h] at hj; cases hj
    obtain ⟨h7, h8⟩ := h5 (by omega)
    simp only [Option.some.injEq] at h7
    subst h7
    have h9 := h6 j u hj
    by_cases h0 : j = 0
    · subst h0; simpa [Addr.add] using h9
    · simpa [Addr.add, h0] using h9

theorem bel_then {a b c : World} (h : Below a.heap.size a b) (k : Below b.heap.size b c) : Below a.heap.size a c := h.trans (k.mono h.size)

theorem RdC.drew {w : World} {a : Option Addr} {n c : Nat} {cs : List Value} (h : RdC w a n c cs) : RdC w.drew a n c cs := h.below (Below.refl w.heap.size w).drew (Nat.le_refl _)
theorem RdI.drew {k : IntKind} {w : World} {a : Option Addr} {c : Nat} {l : List Int} (h : RdI k w a c l) : RdI k w.drew a c l := h.below (Below.refl w.heap.size w).drew (Nat.le_refl _)
theorem RdII.drew {k : IntKind} {w : World} {a : Option Addr} {c : Nat} {ls : List (List Int)} (h : RdII k w a c ls) : RdII k w.drew a c ls := h.below (Below.refl w.heap.size w).drew (Nat.le_refl _)

/-- the text of bytes. -/
def strOf (l : List Int) : ByteArray := ⟨(l.map fun x => UInt8.ofNat x.toNat).toArray⟩

theorem fold_push (l : List Int) : ∀ s : ByteArray, l.foldl (fun r n => r.push (UInt8.ofNat n.toNat)) s = ⟨s.data ++ (l.map fun x => UInt8.ofNat x.toNat).toArray⟩ := by
  induction l with
  | nil => intro s; simp
  | cons x l ih =>
    intro s
    rw [List.foldl_cons, ih]
    apply ByteArray.ext
    simp [ByteArray.push]

/-- 'string(b)'. -/
theorem run_str_of {P : Program} {w : World} {src dst e : TypeId} {a : Option Addr} {c : Nat} {l : List Int} (h : RdI .u8 w a c l) (hs : P.underlying src = some (.slice e)) (he : P.underlying e = some (.int .u8)) (hd : P.underlying dst = some .string) :
    (convert src dst (.slice a l.length c)).run P w = .ok (.string (strOf l)) w := by
  rw [run_convert_bytes_string w src dst e a l.length c hs he hd]
  cases a with
  | none =>
    have h0 := (h.row.nil rfl).1
    have : l = [] := List.length_eq_zero_iff.1 h0
    subst this
    rfl
  | some ad =>
    obtain ⟨b, o, h1, h2⟩ := h.row.at'
    have hl := run_loadCells_list (P := P) w ad (l.map (Value.int .u8)) (fun j u hj => by
      have hlen : j < (l.map (Value.int .u8)).length := by
        rcases Nat.lt_or_ge j (l.map (Value.int .u8)).length with h | h
        · exact h
        · rw [List.getElem?_eq_none h] at hj; cases hj
      obtain ⟨h7, _⟩ := h1 (by omega)
      simp only [Option.some.injEq] at h7
      subst h7
      have h9 := h2 j u hj
      by_cases h0 : j = 0
      · subst h0; simpa [Addr.add] using h9
      · simpa [Addr.add, h0] using h9)
    rw [List.length_map] at hl
    rw [run_bytesToString w ad l.length c l hl, fold_push]
    congr 2
    apply ByteArray.ext
    simp [strOf]

theorem ints_one (k : IntKind) (l : List Int) : ∀ u ∈ l.map (Value.int k), u.oneCell' = true := by
  intro u hu
  obtain ⟨x, _, rfl⟩ := List.mem_map.1 hu
  rfl

end Go.Proofs.Ytfnibpkojhgflaa
