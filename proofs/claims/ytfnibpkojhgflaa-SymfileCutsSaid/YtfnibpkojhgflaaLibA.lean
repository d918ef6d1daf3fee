/- Several texts in one: Rd, Mix, Sep, MixR, SepMore, Tail, TailK, MixA, Guard, And. -/
import Derived.WalkKit
import Derived.WalkSpells
import Derived.WalkLawsBesides
import Derived.Lib.Hide
import Derived.Handy
import Derived.Laws.AppendOwnNone
import Derived.OrdersHeld
import Derived.BigQuiet
import Derived.Below
import Derived.Laws.Rows
import Derived.Laws.Tables
import Derived.Deep.MidRow
import Derived.Laws.ResultCell
import Derived.OwnWalk
namespace Go.Proofs.Ytfnibpkojhgflaa

section
open Go.RowKit

theorem ret_int {k : IntKind} {a b : Int} (h : a = b) : Ending.returned (.int k a) = .returned (.int k b) := by rw [h]
theorem ret_bool {a b : Bool} (h : a = b) : Ending.returned (.bool a) = .returned (.bool b) := by rw [h]

/-- The slice value '.slice a n c' leads to the cells 'cs' (whatever the size of an element). -/
structure RdC (w : World) (a : Option Addr) (n c : Nat) (cs : List Value) : Prop where
  at' : ∃ b o, (0 < cs.length → a = some ⟨b, o, none⟩ ∧ b < w.heap.size) ∧ ∀ (j : Nat) (u : Value), cs[j]? = some u → w.cell? ⟨b, o + j, none⟩ = some u
  nil : a = none → n = 0 ∧ c = 0
  le : n ≤ c
  cap : c ≤ maxLen

theorem RdC.below {w w' : World} {a : Option Addr} {n c : Nat} {cs : List Value} {B : Nat} (h : RdC w a n c cs) (hb : Below B w w') (hB : w.heap.size ≤ B) : RdC w' a n c cs := by
  obtain ⟨⟨b, o, h1, h2⟩, h3, h4, h5⟩ := h
  refine ⟨⟨b, o, fun h0 => ⟨(h1 h0).1, Nat.lt_of_lt_of_le (h1 h0).2 hb.size⟩, fun i u hi => ?_⟩, h3, h4, h5⟩
  have hlen : i < cs.length := by
    rcases Nat.lt_or_ge i cs.length with h | h
    · exact h
    · rw [List.getElem?_eq_none h] at hi; cases hi
  have hlt := (h1 (by omega)).2
  exact (hb.cell (p := ⟨b, o + i, none⟩) (by show b < B; omega)).trans (h2 i u hi)

theorem RdC.nilSlice (w : World) : RdC w none 0 0 [] := ⟨⟨0, 0, fun h => by simp at h, fun j u h => by simp at h⟩, fun _ => ⟨rfl, rfl⟩, Nat.le_refl _, Nat.zero_le _⟩

/-- What the call's own memory holds. -/
theorem RdC.own {w : World} {base : Nat} {e : TypeId} {size : Nat} {v : Value} {n : Nat} {xs : List Value} (h : w.ownsRow base e size v n xs) : ∃ a c, v = .slice a n c ∧ RdC w a n c xs := by
  have hl := h.lt
  have hc := fun g (hg : v.ownBlock = some g) => h.cells hg
  obtain ⟨h1, h2⟩ := h
  rcases h2 with ⟨rfl, rfl⟩ | ⟨g, cap, cur, rfl, hb, hh, hle, hm, hy, hz⟩
  · have : xs = [] := List.length_eq_zero_iff.1 (by simpa using h1)
    subst this
    exact ⟨none, 0, rfl, RdC.nilSlice w⟩
  · refine ⟨_, cap, rfl, ⟨g, 0, fun _ => ⟨rfl, (hl g rfl).2⟩, fun j u hj => ?_⟩, (fun h => by cases h), hle, hm⟩
    have h9 := hc g rfl j u hj
    by_cases h0 : j = 0
    · subst h0; simpa [Addr.add] using h9
    · simpa [Addr.add, h0] using h9

/-- numbers of one kind. -/
structure RdI (k : IntKind) (w : World) (a : Option Addr) (c : Nat) (l : List Int) : Prop where
  row : RdC w a l.length c (l.map (Value.int k))
  bd : ∀ x ∈ l, k.min ≤ x ∧ x ≤ k.max

theorem RdI.below {k : IntKind} {w w' : World} {a : Option Addr} {c : Nat} {l : List Int} {B : Nat} (h : RdI k w a c l) (hb : Below B w w') (hB : w.heap.size ≤ B) : RdI k w' a c l :=
  ⟨h.row.below hb hB, h.bd⟩

theorem RdI.len {k : IntKind} {w : World} {a : Option Addr} {c : Nat} {l : List Int} (h : RdI k w a c l) : l.length ≤ 9223372036854775807 := by
  have := h.row.le; have := h.row.cap; unfold maxLen at *; omega

/-- element i. -/
theorem RdI.cells {k : IntKind} {w : World} {a : Option Addr} {c : Nat} {l : List Int} (h : RdI k w a c l) :
    ∃ b o, (0 < l.length → a = some ⟨b, o, none⟩ ∧ b < w.heap.size) ∧ ∀ i, i < l.length → w.cell? ⟨b, o + i, none⟩ = some (.int k (l.getD i 0)) := by
  obtain ⟨b, o, h1, h2⟩ := h.row.at'
  refine ⟨b, o, fun h0 => h1 (by simpa using h0), fun i hi => h2 i _ ?_⟩
  rw [List.getElem?_map, List.getElem?_eq_getElem hi, List.getD_eq_getElem?_getD, List.getElem?_eq_getElem hi]; rfl

theorem RdI.kind {k : IntKind} {w : World} {a : Option Addr} {c : Nat} {l : List Int} (h : RdI k w a c l) (i : Nat) (hi : i < l.length) : k.min ≤ l.getD i 0 ∧ l.getD i 0 ≤ k.max :=
  h.bd _ (by rw [List.getD_eq_getElem?_getD, List.getElem?_eq_getElem hi]; exact List.getElem_mem hi)

theorem bd_u8 {x : Int} (h : IntKind.u8.min ≤ x ∧ x ≤ IntKind.u8.max) : 0 ≤ x ∧ x < 256 := by
  simp [IntKind.min, IntKind.max, IntKind.bits, IntKind.signed] at h; omega
theorem bd_u8' {x : Int} (h : 0 ≤ x ∧ x < 256) : IntKind.u8.min ≤ x ∧ x ≤ IntKind.u8.max := by
  simp [IntKind.min, IntKind.max, IntKind.bits, IntKind.signed]; omega
theorem bd_u32 {x : Int} (h : IntKind.u32.min ≤ x ∧ x ≤ IntKind.u32.max) : 0 ≤ x ∧ x < 4294967296 := by
  simp [IntKind.min, IntKind.max, IntKind.bits, IntKind.signed] at h; omega
theorem bd_u32' {x : Int} (h : 0 ≤ x ∧ x < 4294967296) : IntKind.u32.min ≤ x ∧ x ≤ IntKind.u32.max := by
  simp [IntKind.min, IntKind.max, IntKind.bits, IntKind.signed]; omega
theorem bd_i64 {x : Int} (h : IntKind.i64.min ≤ x ∧ x ≤ IntKind.i64.max) : -9223372036854775808 ≤ x ∧ x ≤ 9223372036854775807 := by
  simp [IntKind.min, IntKind.max, IntKind.bits, IntKind.signed] at h; omega
theorem bd_i64' {x : Int} (h : -9223372036854775808 ≤ x ∧ x ≤ 9223372036854775807) : IntKind.i64.min ≤ x ∧ x ≤ IntKind.i64.max := by
  simp [IntKind.min, IntKind.max, IntKind.bits, IntKind.signed]; omega

theorem RdI.u8 {w : World} {a : Option Addr} {c : Nat} {l : List Int} (h : RdI .u8 w a c l) (i : Nat) (hi : i < l.length) : 0 ≤ l.getD i 0 ∧ l.getD i 0 < 256 := bd_u8 (h.kind i hi)
theorem RdI.u32 {w : World} {a : Option Addr} {c : Nat} {l : List Int} (h : RdI .u32 w a c l) (i : Nat) (hi : i < l.length) : 0 ≤ l.getD i 0 ∧ l.getD i 0 < 4294967296 := bd_u32 (h.kind i hi)

/-- out of an argument's reading. -/
theorem bd_of_wf {k : IntKind} {x : Int} (h : (Lit.int k x).wf = true) : k.min ≤ x ∧ x ≤ k.max := by simpa [Lit.wf] using h

/-- a slice of the call's own. -/
theorem RdI.own {k : IntKind} {w : World} {base : Nat} {e : TypeId} {v : Value} {n : Nat} {l : List Int} (h : w.ownsRow base e 1 v n (l.map (Value.int k))) (hb : ∀ x ∈ l, k.min ≤ x ∧ x ≤ k.max) :
    ∃ a c, v = .slice a l.length c ∧ RdI k w a c l := by
  have hn : n = l.length := by have := h.1; simpa using this.symm
  subst hn
  obtain ⟨a, c, hv, hr⟩ := RdC.own h
  exact ⟨a, c, hv, hr, hb⟩

/-- 's[:n]'. -/
theorem RdI.take {k : IntKind} {w : World} {b o c : Nat} {l : List Int} (h : RdI k w (some ⟨b, o, none⟩) c l) (n : Nat) (hn : n ≤ l.length) : RdI k w (some ⟨b, o, none⟩) c (l.take n) ∧ (l.take n).length = n := by
  have hlen : (l.take n).length = n := by rw [List.length_take]; omega
  obtain ⟨⟨⟨b', o', h1, h2⟩, h3, h4, h5⟩, hb⟩ := h
  refine ⟨⟨⟨⟨b', o', fun h0 => h1 (by simp at h0 ⊢; omega), fun j u hj => h2 j u ?_⟩, (fun h => by cases h), by omega, h5⟩, fun x hx => hb x (List.mem_of_mem_take hx)⟩, hlen⟩
  rw [List.map_take, List.getElem?_take] at hj
  split at hj
  · exact hj
  · cases hj

/-- 's[n:]'. -/
theorem RdI.drop {k : IntKind} {w : World} {b o c : Nat} {l : List Int} (h : RdI k w (some ⟨b, o, none⟩) c l) (n : Nat) (hn : n ≤ l.length) :
    RdI k w (if c = n then some ⟨b, o, none⟩ else some ⟨b, o + n, none⟩) (c - n) (l.drop n) ∧ (l.drop n).length = l.length - n := by
  obtain ⟨⟨⟨b', o', h1, h2⟩, h3, h4, h5⟩, hb⟩ := h
  refine ⟨⟨⟨⟨b', o' + n, fun h0 => ?_, fun j u hj => ?_⟩, (fun h => by split at h <;> cases h), by simp; omega, by omega⟩, fun x hx => hb x (List.mem_of_mem_drop hx)⟩, List.length_drop⟩
  · have h6 := h1 (by simp at h0 ⊢; omega)
    simp at h0
    rw [if_neg (by omega)]
    obtain ⟨h7, h8⟩ := h6
    simp only [Option.some.injEq, Addr.mk.injEq] at h7
    exact ⟨by rw [h7.1, h7.2.1], h8⟩
  · rw [List.map_drop, List.getElem?_drop] at hj
    rw [Nat.add_assoc]
    exact h2 _ u hj
/-- lists of numbers: a slice of slices. -/
structure RdII (k : IntKind) (w : World) (a : Option Addr) (c : Nat) (ls : List (List Int)) : Prop where
  at' : ∃ b o, (0 < ls.length → a = some ⟨b, o, none⟩ ∧ b < w.heap.size) ∧ ∀ i, i < ls.length → ∃ x d, w.cell? ⟨b, o + i, none⟩ = some (.slice x (ls.getD i []).length d) ∧ RdI k w x d (ls.getD i [])
  nil : a = none → c = 0
  le : ls.length ≤ c
  cap : c ≤ maxLen

theorem RdII.below {k : IntKind} {w w' : World} {a : Option Addr} {c : Nat} {ls : List (List Int)} {B : Nat} (h : RdII k w a c ls) (hb : Below B w w') (hB : w.heap.size ≤ B) : RdII k w' a c ls := by
  obtain ⟨⟨b, o, h1, h2⟩, h3, h4, h5⟩ := h
  refine ⟨⟨b, o, fun h0 => ⟨(h1 h0).1, Nat.lt_of_lt_of_le (h1 h0).2 hb.size⟩, fun i hi => ?_⟩, h3, h4, h5⟩
  have hlt := (h1 (by omega)).2
  obtain ⟨x, d, h6, h7⟩ := h2 i hi
  exact ⟨x, d, (hb.cell (p := ⟨b, o + i, none⟩) (by show b < B; omega)).trans h6, h7.below hb hB⟩

theorem RdII.len {k : IntKind} {w : World} {a : Option Addr} {c : Nat} {ls : List (List Int)} (h : RdII k w a c ls) : ls.length ≤ 9223372036854775807 := by
  have := h.le; have := h.cap; unfold maxLen at *; omega

/-- a list of one slice, as 'buildSlice' lays it. -/
theorem RdII.one {k : IntKind} {w : World} {a : Option Addr} {l : List Int} {c : Nat} (t : TypeId) (h : RdI k w a c l) :
    RdII k (w.alloc (.cells #[.slice a l.length c] t)) (some ⟨w.heap.size, 0, none⟩) 1 [l] := by
  refine ⟨⟨w.heap.size, 0, fun _ => ⟨rfl, by simp⟩, fun i hi => ?_⟩, (fun h => by cases h), Nat.le_refl _, by unfold maxLen; simp⟩
  have hi0 : i = 0 := by simp at hi; omega
  subst hi0
  exact ⟨a, c, by simp [go_sem], h.below ((Below.refl _ w).alloc (Nat.le_refl _) _) (Nat.le_refl _)⟩

/-- what a program's tables say of a slice's type and its element's. -/
structure ET (P : Program) (t e : TypeId) (z : Value) (size bytes : Nat) : Prop where
  ex : ∃ i : TypeInfo, P.underlying t = some (.slice e) ∧ P.info? e = some i ∧ i.zero = some z ∧ i.size = size ∧ i.bytes = bytes
  zs : z.cells.size = size
  pos : 0 < size

theorem ET.of {P : Program} {t e : TypeId} {z : Value} {size bytes : Nat} (h1 : P.underlying t = some (.slice e)) (h2 : (P.info? e).map (fun i => (i.zero, i.size, i.bytes)) = some (some z, size, bytes)) (h3 : z.cells.size = size) (h4 : 0 < size) : ET P t e z size bytes := by
  obtain ⟨i, hi, hz, hs, hb⟩ := info_parts h2
  exact ⟨⟨i, h1, hi, hz, hs, hb⟩, h3, h4⟩

/-- 'append(v, x...)', v the call's own, x whatever. -/
theorem append_rd {P : Program} {w : World} {ops : Array Oper} {rest : List Oper} {o : Oper} {a : Act} {Q : Exit → Act → World → Prop} (hgd : o.guard = none)
    (s x : Operand) {t e : TypeId} {z : Value} {size bytes : Nat} (ht : ET P t e z size bytes) (ho : o.op = .call { callee := .builtin .append, args := #[s, x], argTypes := #[t, t] }) (base : Nat)
    {v : Value} {n : Nat} {xs : List Value} (hs : a.eval s = v) (hown : w.ownsRow base e size v n xs) {ad : Option Addr} {m c : Nat} {news : List Value}
    (hx : a.eval x = .slice ad m c) (hr : RdC w ad m c news) (hl : news.length = m * size) (h1 : ∀ u ∈ news, u.oneCell' = true)
    (hbytes : (n + m) * bytes ≤ 140737488355328) (h63 : n + m ≤ 140737488355328) (hbase : base ≤ w.heap.size)
    (h : ∀ (v' : Value) (w' : World), w'.ownsRow base e size v' (n + m) (xs ++ news) → w.grownBy w' v.ownBlock → wpList P ops Q rest (a.put o.dst v') w') :
    wpList P ops Q (o :: rest) a w := by
  obtain ⟨⟨i, h2, hi, hz, hsz, hb⟩, hzs, hpos⟩ := ht
  cases ad with
  | none =>
    obtain ⟨rfl, rfl⟩ := hr.nil rfl
    have hnews : news = [] := List.length_eq_zero_iff.1 (by simpa using hl)
    subst hnews
    refine wpList_append_own_none hgd s x t ho base e i size h2 hi v n xs hs hown hx (h v w (by simpa using hown) ?_)
    exact World.grownBy.refl _ _
  | some ad =>
    refine wpList_append_own w hgd s x t ho base e i z size bytes h2 hi hz hsz hb hzs hpos v n xs hs hown ad m c news hx hl ?_ h1 (by unfold maxLen; omega) hbytes hbase (fun v' w' g1 g2 _ => h v' w' g1 g2)
    intro j u hj
    obtain ⟨b, o, h5, h6⟩ := hr.at'
    have hlen : j < news.length := by
      rcases Nat.lt_or_ge j news.length with h | h
      · exact h
      · rw [List.getElem?_eq_none h] at hj; cases hj
    obtain ⟨h7, h8⟩ := h5 (by omega)
    simp only [Option.some.injEq] at h7
    subst h7
    have h9 := h6 j u hj
    by_cases h0 : j = 0
    · subst h0; simpa [Addr.add] using h9
    · simpa [Addr.add, h0] using h9

theorem bel_then {a b c : World} (h : Below a.heap.size a b) (k : Below b.heap.size b c) : Below a.heap.size a c := h.trans (k.mono h.size)

theorem RdC.drew {w : World} {a : Option Addr} {n c : Nat} {cs : List Value} (h : RdC w a n c cs) : RdC w.drew a n c cs := h.below (Below.refl w.heap.size w).drew (Nat.le_refl _)
theorem RdI.drew {k : IntKind} {w : World} {a : Option Addr} {c : Nat} {l : List Int} (h : RdI k w a c l) : RdI k w.drew a c l := h.below (Below.refl w.heap.size w).drew (Nat.le_refl _)
theorem RdII.drew {k : IntKind} {w : World} {a : Option Addr} {c : Nat} {ls : List (List Int)} (h : RdII k w a c ls) : RdII k w.drew a c ls := h.below (Below.refl w.heap.size w).drew (Nat.le_refl _)

/-- the text of bytes. -/
def strOf (l : List Int) : ByteArray := ⟨(l.map fun x => UInt8.ofNat x.toNat).toArray⟩

theorem fold_push (l : List Int) : ∀ s : ByteArray, l.foldl (fun r n => r.push (UInt8.ofNat n.toNat)) s = ⟨s.data ++ (l.map fun x => UInt8.ofNat x.toNat).toArray⟩ := by
  induction l with
  | nil => intro s; simp
  | cons x l ih =>
    intro s
    rw [List.foldl_cons, ih]
    apply ByteArray.ext
    simp [ByteArray.push]

/-- 'string(b)'. -/
theorem run_str_of {P : Program} {w : World} {src dst e : TypeId} {a : Option Addr} {c : Nat} {l : List Int} (h : RdI .u8 w a c l) (hs : P.underlying src = some (.slice e)) (he : P.underlying e = some (.int .u8)) (hd : P.underlying dst = some .string) :
    (convert src dst (.slice a l.length c)).run P w = .ok (.string (strOf l)) w := by
  rw [run_convert_bytes_string w src dst e a l.length c hs he hd]
  cases a with
  | none =>
    have h0 := (h.row.nil rfl).1
    have : l = [] := List.length_eq_zero_iff.1 h0
    subst this
    rfl
  | some ad =>
    obtain ⟨b, o, h1, h2⟩ := h.row.at'
    have hl := run_loadCells_list (P := P) w ad (l.map (Value.int .u8)) (fun j u hj => by
      have hlen : j < (l.map (Value.int .u8)).length := by
        rcases Nat.lt_or_ge j (l.map (Value.int .u8)).length with h | h
        · exact h
        · rw [List.getElem?_eq_none h] at hj; cases hj
      obtain ⟨h7, _⟩ := h1 (by omega)
      simp only [Option.some.injEq] at h7
      subst h7
      have h9 := h2 j u hj
      by_cases h0 : j = 0
      · subst h0; simpa [Addr.add] using h9
      · simpa [Addr.add, h0] using h9)
    rw [List.length_map] at hl
    rw [run_bytesToString w ad l.length c l hl, fold_push]
    congr 2
    apply ByteArray.ext
    simp [strOf]

theorem ints_one (k : IntKind) (l : List Int) : ∀ u ∈ l.map (Value.int k), u.oneCell' = true := by
  intro u hu
  obtain ⟨x, _, rfl⟩ := List.mem_map.1 hu
  rfl
end

section
/-- operations that yield a value and leave the world alone. -/
def pureOp : Op → Bool
  | .move _ | .assign _ | .pick .. | .load .. | .binOp .. | .unOp .. | .convert .. | .slice .. | .fieldAddr .. | .field .. | .indexAddr .. | .index .. | .lookup .. | .extract .. | .build .. | .nilCheck _ => true
  | .call c => match c.callee with | .builtin .len | .builtin .cap | .builtin .min | .builtin .max => true | _ => false
  | _ => false

def onlyValue : Result Next → Prop
  | .ok (.value _) _ => True
  | .ok _ _ => False
  | .halt .. => True

theorem onlyValue_bind {P : Program} (s : Sem Value) (w : World) : onlyValue ((do pure (Next.value (← s)) : Sem Next).run P w) := by
  rw [Sem.run_bind]
  cases h : s.run P w with
  | ok v w' => simp [Result.andThen, Sem.run_pure, onlyValue]
  | halt x w' => simp [Result.andThen, onlyValue]

theorem onlyValue_then {P : Program} {α : Type} (s : Sem α) (f : α → Sem Next) (h : ∀ a w, onlyValue ((f a).run P w)) (w : World) : onlyValue ((s >>= f).run P w) := by
  rw [Sem.run_bind]
  cases hs : s.run P w with
  | ok v w' => exact h v w'
  | halt x w' => trivial

theorem nilCheck_value {P : Program} {o : Oper} {x : Operand} (ho : o.op = .nilCheck x) (ρ : Operand → Value) (w : World) : onlyValue ((execOp ρ o).run P w) := by
  unfold execOp
  rw [ho]
  dsimp only
  split
  · trivial
  · trivial
  · trivial
  · split
    · trivial
    · refine onlyValue_then _ _ (fun a w => ?_) w
      refine onlyValue_then _ _ (fun a w => ?_) w
      split
      · first
          | trivial
          | (refine onlyValue_then _ _ ?_ w; intro a w; trivial)
      · trivial
    · trivial
  · trivial

theorem pureOp_value {P : Program} {o : Oper} (h : pureOp o.op = true) (ρ : Operand → Value) (w : World) : onlyValue ((execOp ρ o).run P w) := by
  obtain ⟨dst, op, ty, pos, aft, grd⟩ := o
  cases op with
  | move x => trivial
  | assign x => trivial
  | pick c a b => 
    simp only [execOp]
    rw [Sem.run_bind]
    cases h : (asBool (ρ c)).run P w with
    | ok v w' => simp [Result.andThen, Sem.run_pure, onlyValue]
    | halt x w' => simp [Result.andThen, onlyValue]
  | load t a => exact onlyValue_bind _ _
  | binOp => exact onlyValue_bind _ _
  | unOp => exact onlyValue_bind _ _
  | convert => exact onlyValue_bind _ _
  | slice => exact onlyValue_bind _ _
  | fieldAddr => exact onlyValue_bind _ _
  | field => exact onlyValue_bind _ _
  | indexAddr => exact onlyValue_bind _ _
  | index => exact onlyValue_bind _ _
  | lookup => exact onlyValue_bind _ _
  | extract => exact onlyValue_bind _ _
  | build => exact onlyValue_bind _ _
  | nilCheck x => exact nilCheck_value (x := x) rfl ρ w
  | call c =>
    obtain ⟨callee, args, tys⟩ := c
    cases callee with
    | builtin b =>
      cases b <;> first | (simp [pureOp] at h; done) | (simp only [execOp, resolve, invoke]; rw [Sem.run_bind]; simp only [Sem.run_pure, Result.andThen]; exact onlyValue_bind _ _)
    | _ => simp [pureOp] at h
  | _ => simp [pureOp] at h

/-- the i-th operation of a region that is written out. -/
def nth : List Oper → Nat → Option Oper
  | [], _ => none
  | o :: _, 0 => some o
  | _ :: l, n + 1 => nth l n
theorem nth_eq : ∀ (l : List Oper) (i : Nat), nth l i = l[i]?
  | [], _ => rfl
  | _ :: _, 0 => rfl
  | _ :: l, n + 1 => by rw [nth, nth_eq l n]; rfl
def pickOps (l : List Oper) : List Nat → List Oper
  | [] => []
  | i :: is => match nth l i with
    | some o => o :: pickOps l is
    | none => pickOps l is

def marks (listed : Array Bool) : List Nat → Array Bool
  | [] => listed
  | i :: is => marks (listed.setIfInBounds i true) is

def quietsB (ops : Array Oper) : List Nat → Array Bool → Bool
  | [], _ => true
  | i :: is, listed => (Region.ready .any ops listed).contains i && Region.free .any ops listed i && (match ops[i]? with | some o => pureOp o.op | none => false) && quietsB ops is (listed.setIfInBounds i true)

def mixB (ops : Array Oper) : List (List Nat × Nat) → List Nat → Array Bool → Bool
  | [], fin, listed => quietsB ops fin listed && (Region.ready .any ops (marks listed fin)).isEmpty
  | (qs, i) :: rest, fin, listed => quietsB ops qs listed && (Region.ready .any ops (marks listed qs) == [i]) && mixB ops rest fin ((marks listed qs).setIfInBounds i true)

def total : List (List Nat × Nat) → List Nat → Nat
  | [], fin => fin.length
  | (qs, _) :: rest, fin => total rest fin + 1 + qs.length

def regionB (l : List Oper) (sched : List (List Nat × Nat)) (fin : List Nat) : Bool :=
  Region.noSelect l.toArray && total sched fin == l.toArray.size && mixB l.toArray sched fin (Array.replicate l.toArray.size false)

/-- the worlds of a class, as a type of their own. -/
structure Later (C : World → Prop) where
  w : World
  ok : C w

section
variable {P : Program} {l : List Oper} {Q : Exit → Act → World → Prop} {C : World → Prop}

/-- in segments: what yields the same in every world that goes on from the segment's own (below its heap's size all is as it was), then one operation that is forced. -/
def wpMix (P : Program) (l : List Oper) (Q : Exit → Act → World → Prop) : List (List Nat × Nat) → List Nat → Act → World → Prop
  | [], fin, a, w => wpQuiet P l.toArray (fun w' => ∃ x : Later (RowKit.Below w.heap.size w), w' = x.w) (fun a' => Q .normal a' w) (pickOps l fin) a
  | (qs, i) :: rest, fin, a, w => wpQuiet P l.toArray (fun w' => ∃ x : Later (RowKit.Below w.heap.size w), w' = x.w)
      (fun a' => wpList P l.toArray (Exit.then (fun a'' w'' => RowKit.Below w.heap.size w w'' ∧ wpMix P l Q rest fin a'' w'') Q) (pickOps l [i]) a' w) (pickOps l qs) a

theorem wpAnyH_weak {S S' : World → Prop} {ops : Array Oper} (h : ∀ w, S' w → S w) : ∀ (fuel : Nat) (listed : Array Bool) (a : Act) (w : World), wpAnyH P .any ops Q S' fuel listed a w → wpAnyH P .any ops Q S fuel listed a w
  | 0, _, _, _, hh => hh
  | fuel + 1, _, _, _, hh => ⟨hh.1, fun i hi => wpOp_mono (fun a' w' h' => ⟨h w' h'.1, wpAnyH_weak h fuel _ a' w' h'.2⟩) (hh.2 i hi)⟩

theorem quiets_take (hs : Region.noSelect l.toArray = true) (hQ : ∀ c a d v w, Q (.panic c) (Act.put a d v) w → Q (.panic c) a w) {w : World} (hC : C w) (fuel : Nat) : ∀ (is : List Nat) (listed : Array Bool) (a : Act),
    quietsB l.toArray is listed = true → wpQuiet P l.toArray (fun w' => ∃ x : Later C, w' = x.w) (fun a' => wpAnyH P .any l.toArray Q C fuel (marks listed is) a' w) (pickOps l is) a →
    wpAnyH P .any l.toArray Q C (fuel + is.length) listed a w
  | [], listed, a, _, h => h
  | i :: is, listed, a, hB, h => by
    simp only [quietsB, Bool.and_eq_true] at hB
    obtain ⟨⟨⟨h1, h2⟩, h3⟩, h4⟩ := hB
    have hi : l.toArray[i]? = nth l i := by rw [nth_eq]; simp
    cases ho : nth l i with
    | none => rw [hi, ho] at h3; simp at h3
    | some o =>
      rw [hi, ho] at h3
      rw [ho] at hi
      simp only [pickOps, ho, wpQuiet] at h
      show wpAnyH P .any l.toArray Q C ((fuel + is.length) + 1) listed a w
      split at h
      · rename_i hw
        obtain ⟨v, hv, hn⟩ := h
        refine wpAnyH_take hi hs h2 h1 (fun c a w => hQ c a o.dst v w) (v := v) (.inl ⟨hw, fun w' hw' => ?_⟩) hC (quiets_take hs hQ hC fuel is _ _ h4 hn)
        have h5 := hv w' ⟨⟨w', hw'⟩, rfl⟩
        have h6 := pureOp_value (P := P) h3 a.eval w'
        unfold Oper.quietAt at h5
        generalize (execOp a.eval o).run P w' = r at h5 h6
        cases r with
        | halt x w'' => exact h5.elim
        | ok n w'' =>
          cases n with
          | value u =>
            simp only [Oper.quietUpon] at h5
            obtain ⟨rfl, rfl⟩ := h5
            rfl
          | _ => exact h6.elim
      · rename_i hw
        exact wpAnyH_take hi hs h2 h1 (fun c a w => hQ c a o.dst undef w) (v := undef) (.inr ⟨by simpa using hw, rfl⟩) hC (quiets_take hs hQ hC fuel is _ _ h4 h)

theorem wpQuiet_mono {ops : Array Oper} {C : World → Prop} {Q Q' : Act → Prop} (h : ∀ a, Q a → Q' a) : ∀ (l : List Oper) (a : Act), wpQuiet P ops C Q l a → wpQuiet P ops C Q' l a
  | [], a, hh => h a hh
  | o :: l, a, hh => by
    unfold wpQuiet at *
    split
    · rename_i hw
      simp only [hw, if_true] at hh
      exact Oper.quiet_mono (fun a' => wpQuiet_mono h l a') hh
    · rename_i hw
      simp only [hw] at hh
      exact wpQuiet_mono h l _ hh

theorem wp_then {o : Oper} {a : Act} {w : World} {K N : Act → World → Prop} (h : o.wp P a w K (Exit.then N Q)) : o.wp P a w K Q := by
  unfold Oper.wp at *
  generalize (execOp a.eval o).run P w = r at *
  cases r with
  | ok n w' => cases n <;> simp only [Oper.upon] at h ⊢ <;> first | exact h | exact Calls.mono h (fun e w'' he => by cases e <;> exact he)
  | halt x w' => cases x <;> simp only [Oper.upon] at h ⊢ <;> exact h

theorem mix_any (hs : Region.noSelect l.toArray = true) (hQ : ∀ c a d v w, Q (.panic c) (Act.put a d v) w → Q (.panic c) a w) : ∀ (sched : List (List Nat × Nat)) (fin : List Nat) (listed : Array Bool) (a : Act) (w : World),
    mixB l.toArray sched fin listed = true → wpMix P l Q sched fin a w → wpAnyH P .any l.toArray Q (RowKit.Below w.heap.size w) (total sched fin) listed a w
  | [], fin, listed, a, w, hB, h => by
    simp only [mixB, Bool.and_eq_true, List.isEmpty_iff] at hB
    have := quiets_take hs hQ (C := RowKit.Below w.heap.size w) (RowKit.Below.refl _ _) 0 fin listed a hB.1 (by
      refine cast ?_ h
      unfold wpMix
      congr 1
      funext a'
      exact propext ⟨fun h => wpAnyH_done hB.2 h 0, fun h => h.2⟩)
    simpa [total] using this
  | (qs, i) :: rest, fin, listed, a, w, hB, h => by
    simp only [mixB, Bool.and_eq_true, beq_iff_eq] at hB
    obtain ⟨⟨h1, h2⟩, h3⟩ := hB
    unfold wpMix at h
    refine quiets_take hs hQ (RowKit.Below.refl _ _) (total rest fin + 1) qs listed a h1 ?_
    refine wpQuiet_mono (fun a' h' => ?_) _ _ h
    refine wpAnyH_all h2 (by simp) fun j hj => ?_
    obtain rfl : j = i := by simpa using hj
    have hi : l.toArray[j]? = nth l j := by rw [nth_eq]; simp
    unfold wpOp
    rw [hi]
    have next : ∀ a'' w'', RowKit.Below w.heap.size w w'' ∧ wpMix P l Q rest fin a'' w'' → RowKit.Below w.heap.size w w'' ∧ wpAnyH P .any l.toArray Q (RowKit.Below w.heap.size w) (total rest fin) ((marks listed qs).setIfInBounds j true) a'' w'' := fun a'' w'' h'' =>
      ⟨h''.1, wpAnyH_weak (fun w' hw' => h''.1.trans (hw'.mono h''.1.size)) _ _ _ _ (mix_any hs hQ rest fin _ a'' w'' h3 h''.2)⟩
    cases ho : nth l j with
    | none =>
      rw [ho] at hi
      have : j ∈ Region.ready .any l.toArray (marks listed qs) := by rw [h2]; simp
      obtain ⟨_, o, hoo, _⟩ := mem_ready.1 this
      rw [hi] at hoo
      cases hoo
    | some o =>
      simp only [pickOps, ho, wpList] at h'
      simp only
      split
      · rename_i hw
        simp only [hw, if_true] at h'
        rcases h' with h' | h'
        · exact .inl (Oper.wp_mono next (wp_then h'))
        · exact .inr h'
      · rename_i hw
        simp only [hw] at h'
        exact next _ _ h'

/-- THE LAW. -/
theorem wp_region_mix {id : Nat} {a : Act} {w : World} (sched : List (List Nat × Nat)) (fin : List Nat) (hm : P.follows .mixedOrders = true) (hB : regionB l sched fin = true)
    (hQ : ∀ c a d v w, Q (.panic c) (Act.put a d v) w → Q (.panic c) a w) (h : wpMix P l Q sched fin a w.drew) : (Code.region id l.toArray true).wp P Q a w := by
  simp only [regionB, Bool.and_eq_true, beq_iff_eq] at hB
  obtain ⟨⟨h1, h2⟩, h3⟩ := hB
  refine wp_region_held (S := RowKit.Below w.drew.heap.size w.drew) hm ?_
  rw [← h2] at h3 ⊢
  exact mix_any h1 hQ sched fin _ a _ h3 h

end

theorem wp_region_mix' {P : Program} {l : List Oper} {Q : Exit → Act → World → Prop} {id : Nat} {a : Act} {w : World} (sched : List (List Nat × Nat)) (fin : List Nat) (hm : P.follows .mixedOrders = true) (hB : regionB l sched fin = true)
    (hQ : ∀ c a d v w, Q (.panic c) (Act.put a d v) w → Q (.panic c) a w) (h : ∀ wd, RowKit.Below w.heap.size w wd → wpMix P l Q sched fin a wd) : (Code.region id l.toArray true).wp P Q a w :=
  wp_region_mix sched fin hm hB hQ (h _ (RowKit.Below.refl _ _).drew)

theorem mix_step {P : Program} {l : List Oper} {Q : Exit → Act → World → Prop} {a : Act} {w : World} {qs : List Nat} {i : Nat} {rest : List (List Nat × Nat)} {fin : List Nat}
    (h : wpQuiet P l.toArray (fun w' => ∃ x : Later (RowKit.Below w.heap.size w), w' = x.w) (fun a' => wpList P l.toArray (Exit.then (fun a'' w'' => RowKit.Below w.heap.size w w'' ∧ wpMix P l Q rest fin a'' w'') Q) (pickOps l [i]) a' w) (pickOps l qs) a) : wpMix P l Q ((qs, i) :: rest) fin a w := h
theorem mix_end {P : Program} {l : List Oper} {Q : Exit → Act → World → Prop} {a : Act} {w : World} {fin : List Nat}
    (h : wpQuiet P l.toArray (fun w' => ∃ x : Later (RowKit.Below w.heap.size w), w' = x.w) (fun a' => Q .normal a' w) (pickOps l fin) a) : wpMix P l Q [] fin a w := h

instance later_ne (B : Nat) (w : World) : Nonempty (Later (RowKit.Below B w)) := ⟨⟨w, RowKit.Below.refl _ _⟩⟩
theorem later_cell {B : Nat} {w : World} {p : Addr} {v : Value} (hp : p.block < B) (h : w.cell? p = some v) (x : Later (RowKit.Below B w)) : x.w.cell? p = some v := (x.ok.cell hp).trans h
end

section
set_option linter.unusedVariables false
set_option linter.unusedSimpArgs false
open Go.RowKit

/-- block g is a struct's (an array's) own: these cells. -/
def At (w : World) (g : Nat) (cs : Array Value) (t : TypeId) : Prop := w.heap[g]? = some (.cells cs t (0, 0))

theorem At.cell {w : World} {g : Nat} {cs : Array Value} {t : TypeId} (h : At w g cs t) (j : Nat) : w.cell? ⟨g, j, none⟩ = cs[j]? := cell_of_row w g j cs t _ h
theorem At.free {w : World} {g : Nat} {cs : Array Value} {t : TypeId} (h : At w g cs t) (j : Nat) : w.frozen? ⟨g, j, none⟩ = false := frozen_of_row w g j cs t h
theorem At.lt {w : World} {g : Nat} {cs : Array Value} {t : TypeId} (h : At w g cs t) : g < w.heap.size := (Array.getElem?_eq_some_iff.1 h).1
theorem At.new (w : World) (cs : Array Value) (t : TypeId) : At (w.alloc (.cells cs t)) w.heap.size cs t := heap_alloc_new w _
theorem At.old {w : World} {g : Nat} {cs : Array Value} {t : TypeId} (h : At w g cs t) (o : Obj) : At (w.alloc o) g cs t := (Below.heap_alloc w o g h.lt).trans h
theorem At.drew {w : World} {g : Nat} {cs : Array Value} {t : TypeId} (h : At w g cs t) : At w.drew g cs t := h
theorem At.range {w : World} {g : Nat} {cs : Array Value} {t : TypeId} (h : At w g cs t) (o n : Nat) : w.rangeAt g o (cs.extract o (o + n)).toList := World.rangeAt_of_block h o n

/-- all blocks that were there are as they were, but for those in G. -/
structure Ke (G : Nat → Prop) (w w' : World) : Prop where
  os : w'.os = w.os
  tape : w'.tape = w.tape
  output : w'.output = w.output
  size : w.heap.size ≤ w'.heap.size
  block : ∀ k, k < w.heap.size → ¬ G k → w'.heap[k]? = w.heap[k]?

def Non : Nat → Prop := fun _ => False

theorem Ke.refl (G : Nat → Prop) (w : World) : Ke G w w := ⟨rfl, rfl, rfl, Nat.le_refl _, fun _ _ _ => rfl⟩
theorem Ke.trans' {G G' : Nat → Prop} {a b c : World} (h : Ke G a b) (k : Ke G' b c) (hs : ∀ i, i < a.heap.size → G' i → G i) : Ke G a c :=
  ⟨k.os.trans h.os, k.tape.trans h.tape, k.output.trans h.output, Nat.le_trans h.size k.size, fun i hi hG =>
    (k.block i (Nat.lt_of_lt_of_le hi h.size) (fun h' => hG (hs i hi h'))).trans (h.block i hi hG)⟩
theorem Ke.trans {G : Nat → Prop} {a b c : World} (h : Ke G a b) (k : Ke G b c) : Ke G a c := h.trans' k (fun _ _ h => h)
theorem Ke.mono {G G' : Nat → Prop} {a b : World} (h : Ke G a b) (hs : ∀ i, i < a.heap.size → G i → G' i) : Ke G' a b := ⟨h.os, h.tape, h.output, h.size, fun i hi hG => h.block i hi (fun h' => hG (hs i hi h'))⟩
theorem Ke.below {w w' : World} (G : Nat → Prop) (h : Below w.heap.size w w') : Ke G w w' := ⟨h.os, h.tape, h.output, h.size, fun k hk _ => h.block k hk⟩
theorem Ke.alloc {G : Nat → Prop} {a w : World} (h : Ke G a w) (o : Obj) : Ke G a (w.alloc o) := h.trans (.below G ((Below.refl _ _).alloc (Nat.le_refl _) o))
theorem Ke.drew {G : Nat → Prop} {a w : World} (h : Ke G a w) : Ke G a w.drew := ⟨h.os, h.tape, h.output, h.size, h.block⟩
theorem Ke.setCell (w : World) (p : Addr) (u : Value) : Ke (· = p.block) w (w.setCell p u) :=
  ⟨rfl, rfl, rfl, by simp [World.setCell], fun k _ hG => Below.heap_setCell _ _ _ _ hG⟩
theorem Ke.setRow (w : World) (g : Nat) (cs : Array Value) : Ke (· = g) w (w.setRow g cs) :=
  ⟨rfl, rfl, rfl, by simp [World.setRow], fun k _ hG => setRow_other w g k cs hG⟩
/-- what was written was new. -/
theorem Ke.toBelow {G : Nat → Prop} {w w' : World} (h : Ke G w w') (hG : ∀ i, i < w.heap.size → ¬ G i) : Below w.heap.size w w' := ⟨h.os, h.tape, h.output, h.size, fun k hk => h.block k hk (hG k hk)⟩
theorem Ke.non {w w' : World} (h : Ke Non w w') : Below w.heap.size w w' := h.toBelow (fun _ _ h => h)
theorem At.ke {G : Nat → Prop} {w w' : World} {g : Nat} {cs : Array Value} {t : TypeId} (h : At w g cs t) (k : Ke G w w') (hG : ¬ G g) : At w' g cs t := (k.block g h.lt hG).trans h
theorem At.bel {w w' : World} {g : Nat} {cs : Array Value} {t : TypeId} (h : At w g cs t) (k : Below w.heap.size w w') : At w' g cs t := (k.block g h.lt).trans h

/-! ### several blocks -/
abbrev Row := Nat × Array Value × TypeId
structure Sep (w : World) (l : List Row) : Prop where
  row : ∀ e ∈ l, At w e.1 e.2.1 e.2.2
  nd : l.Pairwise (fun a b => a.1 ≠ b.1)

theorem Sep.nil (w : World) : Sep w [] := ⟨fun _ h => (List.not_mem_nil h).elim, List.Pairwise.nil⟩
theorem Sep.at {w : World} {l : List Row} (h : Sep w l) (k : Nat) {g : Nat} {cs : Array Value} {t : TypeId} (e : l[k]? = some (g, cs, t)) : At w g cs t := h.row _ (List.mem_of_getElem? e)
theorem Sep.cons {w : World} {l : List Row} (h : Sep w l) {g : Nat} {cs : Array Value} {t : TypeId} (ha : At w g cs t) (hn : ∀ e ∈ l, g ≠ e.1) : Sep w ((g, cs, t) :: l) :=
  ⟨fun e he => by rcases List.mem_cons.1 he with rfl | he; exact ha; exact h.row e he, List.Pairwise.cons hn h.nd⟩
theorem Sep.one {w : World} {g : Nat} {cs : Array Value} {t : TypeId} (ha : At w g cs t) : Sep w [(g, cs, t)] := (Sep.nil w).cons ha (fun _ h => (List.not_mem_nil h).elim)
/-- a new block. -/
theorem Sep.alloc {w : World} {l : List Row} (h : Sep w l) (cs : Array Value) (t : TypeId) : Sep (w.alloc (.cells cs t)) ((w.heap.size, cs, t) :: l) :=
  ⟨fun e he => by rcases List.mem_cons.1 he with rfl | he; exact At.new w cs t; exact (h.row e he).old _,
   List.Pairwise.cons (fun e he => Nat.ne_of_gt (h.row e he).lt) h.nd⟩
theorem Sep.other {w : World} {l : List Row} (h : Sep w l) (o : Obj) : Sep (w.alloc o) l := ⟨fun e he => (h.row e he).old o, h.nd⟩
theorem Sep.drew {w : World} {l : List Row} (h : Sep w l) : Sep w.drew l := ⟨fun e he => (h.row e he).drew, h.nd⟩
theorem Sep.bel {w w' : World} {l : List Row} (h : Sep w l) (k : Below w.heap.size w w') : Sep w' l := ⟨fun e he => (h.row e he).bel k, h.nd⟩
theorem Sep.ke {G : Nat → Prop} {w w' : World} {l : List Row} (h : Sep w l) (k : Ke G w w') (hG : ∀ e ∈ l, ¬ G e.1) : Sep w' l := ⟨fun e he => (h.row e he).ke k (hG e he), h.nd⟩
theorem Sep.drop1 {w : World} {e : Row} {l : List Row} (h : Sep w (e :: l)) : Sep w l := ⟨fun x hx => h.row x (List.mem_cons_of_mem _ hx), (List.pairwise_cons.1 h.nd).2⟩
theorem Sep.ne {w : World} {l : List Row} (h : Sep w l) (i j : Nat) (hij : i < j) {a b : Row} (ha : l[i]? = some a) (hb : l[j]? = some b) : a.1 ≠ b.1 := by
  obtain ⟨h1, e1⟩ := List.getElem?_eq_some_iff.1 ha
  obtain ⟨h2, e2⟩ := List.getElem?_eq_some_iff.1 hb
  have := List.pairwise_iff_getElem.1 h.nd i j h1 h2 hij
  rw [e1, e2] at this; exact this
theorem Sep.alloc2 {w : World} {l : List Row} (h : Sep w l) (cs cs' : Array Value) (t t' : TypeId) : Sep ((w.alloc (.cells cs t)).alloc (.cells cs' t')) ((w.heap.size + 1, cs', t') :: (w.heap.size, cs, t) :: l) := by
  have := (h.alloc cs t).alloc cs' t'
  rwa [show (w.alloc (.cells cs t)).heap.size = w.heap.size + 1 from by simp] at this
theorem Sep.alloc3 {w : World} {l : List Row} (h : Sep w l) (cs cs' cs'' : Array Value) (t t' t'' : TypeId) : Sep (((w.alloc (.cells cs t)).alloc (.cells cs' t')).alloc (.cells cs'' t'')) ((w.heap.size + 2, cs'', t'') :: (w.heap.size + 1, cs', t') :: (w.heap.size, cs, t) :: l) := by
  have := (h.alloc2 cs cs' t t').alloc cs'' t''
  rwa [show ((w.alloc (.cells cs t)).alloc (.cells cs' t')).heap.size = w.heap.size + 2 from by simp] at this
theorem bel1 (w : World) (o : Obj) : Below w.heap.size w (w.alloc o) := (Below.refl _ _).alloc (Nat.le_refl _) o
theorem bel2 (w : World) (o o' : Obj) : Below w.heap.size w ((w.alloc o).alloc o') := bel_then (bel1 w o) (bel1 _ o')
theorem bel3 (w : World) (o o' o'' : Obj) : Below w.heap.size w (((w.alloc o).alloc o').alloc o'') := bel_then (bel2 w o o') (bel1 _ o'')
/-- one block is written, by whatever. -/
theorem Sep.upd {w w' : World} {l : List Row} (h : Sep w l) (k : Nat) {g : Nat} {cs : Array Value} {t : TypeId} (e : l[k]? = some (g, cs, t)) {cs' : Array Value} (ha : At w' g cs' t) (hk : Ke (· = g) w w') : Sep w' (l.set k (g, cs', t)) := by
  obtain ⟨hk1, hk2⟩ := List.getElem?_eq_some_iff.1 e
  have hm : ∀ (i : Nat) (hi : i < (l.set k (g, cs', t)).length), (l.set k (g, cs', t))[i].1 = (l[i]'(by simpa using hi)).1 := fun i hi => by
    rw [List.getElem_set]
    split
    · rename_i hh; subst hh; rw [hk2]
    · rfl
  refine ⟨fun x hx => ?_, ?_⟩
  · obtain ⟨i, hi, rfl⟩ := List.mem_iff_getElem.1 hx
    have hi' : i < l.length := by simpa using hi
    by_cases hik : k = i
    · subst hik; rw [List.getElem_set_self]; exact ha
    · rw [List.getElem_set_ne hik]
      refine (h.row _ (List.getElem_mem hi')).ke hk ?_
      have hp := List.pairwise_iff_getElem.1 h.nd
      intro hh
      rcases Nat.lt_or_gt_of_ne hik with h1 | h1
      · exact hp k i hk1 hi' h1 (by rw [hk2]; exact hh.symm)
      · exact hp i k hi' hk1 h1 (by rw [hk2]; exact hh)
  · rw [List.pairwise_iff_getElem]
    intro i j hi hj hij
    rw [hm i hi, hm j hj]
    exact List.pairwise_iff_getElem.1 h.nd i j _ _ hij

/-! ### the laws -/
section
variable {P : Program} {ops : Array Oper} {rest : List Oper} {o : Oper} {a : Act} {w : World} {Q : Exit → Act → World → Prop}

theorem setRow_at {w : World} {g : Nat} {cs : Array Value} {t : TypeId} (h : At w g cs t) (cs' : Array Value) : At (w.setRow g cs') g cs' t := setRow_heap w g cs cs' t _ h
theorem setCell_at {w : World} {g : Nat} {cs : Array Value} {t : TypeId} (h : At w g cs t) (j : Nat) (u : Value) : At (w.setCell ⟨g, j, none⟩ u) g (cs.setIfInBounds j u) t := heap_setCell_same w g j cs t u h

/-- a whole struct is stored at a block's head. -/
theorem store_sep (hgd : o.guard = none) (ty : TypeId) (x y : Operand) (ho : o.op = .store ty x y) {l : List Row} (H : Sep w l) (k : Nat)
    {g : Nat} {old cells : Array Value} {t : TypeId} (hx : a.eval x = .pointer (some ⟨g, 0, none⟩)) (hy : a.eval y = .agg cells) (e : l[k]? = some (g, old, t))
    (hi : (P.info? ty).map (·.size) = some cells.size) (hold : old.size = cells.size) (h1 : cells.toList.all (·.oneCell') = true)
    (h : ∀ w', Sep w' (l.set k (g, cells, t)) → Ke (· = g) w w' → w'.heap.size = w.heap.size → wpList P ops Q rest (a.put o.dst undef) w') : wpList P ops Q (o :: rest) a w :=
  wpList_store_row hgd ty x y ho g cells hx hy t old (H.at k e) hi hold (by simpa using h1)
    (h _ (H.upd k e (setRow_at (H.at k e) cells) (Ke.setRow w g cells)) (Ke.setRow w g cells) (by simp))

/-- a whole struct is loaded from a block's head. -/
theorem load_sep (hgd : o.guard = none) (ty : TypeId) (x : Operand) (ho : o.op = .load ty x) {l : List Row} (H : Sep w l) (k : Nat)
    {g : Nat} {cs : Array Value} {t : TypeId} (hx : a.eval x = .pointer (some ⟨g, 0, none⟩)) (e : l[k]? = some (g, cs, t)) {d : TypeDesc} (hu : P.underlying ty = some d) (hd : d.isRow = true)
    (hi : (P.info? ty).map (·.size) = some cs.size) (h : wpList P ops Q rest (a.put o.dst (.agg cs)) w) : wpList P ops Q (o :: rest) a w := by
  refine wpList_load_mid hgd ty x ho g 0 hx cs.toList d (fun j v hv => ?_) hu hd (by simpa using hi) (by simpa using h)
  rw [(H.at k e).cell]; simpa using hv

end

theorem run_store1 {P : Program} {w : World} {g : Nat} {cs : Array Value} {t : TypeId} (h : At w g cs t) (j : Nat) (hj : j < cs.size) (ty : TypeId) (v : Value) (h1 : v.oneCell' = true) (hi : (P.info? ty).map (·.size) = some 1) :
    (Instr.storeAt ty (.pointer (some ⟨g, j, none⟩)) v).run P w = .ok () (w.setCell ⟨g, j, none⟩ v) := by
  have hcs : v.cells = #[v] := by cases v <;> first | rfl | (simp [Value.oneCell'] at h1)
  have hst : (store ⟨g, j, none⟩ v).run P w = .ok () (w.setCell ⟨g, j, none⟩ v) := by
    rw [run_store P w _ v _ h1, h.cell j, Array.getElem?_eq_getElem hj]
    simp [h.free j]
  have hadd : (⟨g, j, none⟩ : Addr).add 0 = ⟨g, j, none⟩ := by unfold Addr.add; simp
  cases hq : P.info? ty with
  | none => simp [hq] at hi
  | some i =>
    have hs : i.size = 1 := by simpa [hq] using hi
    simp [Instr.storeAt, Instr.sureAddr, storeVar, sizeOf, typeInfo, hq, hcs, hs, storeCells, hadd, hst, Sem.run_bind]

/-- one cell of a struct is stored. -/
theorem store1_sep {P : Program} {ops : Array Oper} {rest : List Oper} {o : Oper} {a : Act} {w : World} {Q : Exit → Act → World → Prop} (hgd : o.guard = none) (ty : TypeId) (x y : Operand) (ho : o.op = .store ty x y) {l : List Row} (H : Sep w l) (k : Nat)
    {g j : Nat} {old : Array Value} {t : TypeId} {v : Value} (hx : a.eval x = .pointer (some ⟨g, j, none⟩)) (hy : a.eval y = v) (e : l[k]? = some (g, old, t))
    (hj : decide (j < old.size) = true) (hi : (P.info? ty).map (·.size) = some 1) (h1 : v.oneCell' = true)
    (h : ∀ w', Sep w' (l.set k (g, old.setIfInBounds j v, t)) → Ke (· = g) w w' → w'.heap.size = w.heap.size → wpList P ops Q rest (a.put o.dst undef) w') : wpList P ops Q (o :: rest) a w := by
  have hk := Ke.setCell w ⟨g, j, none⟩ v
  have hh := h _ (H.upd k e (setCell_at (H.at k e) j v) hk) hk (by simp [World.setCell])
  refine wpList_plain hgd fun K hK => ?_
  unfold Oper.wp execOp
  simp only [ho, hx, hy, Sem.run_bind, run_store1 (P := P) (H.at k e) j (of_decide_eq_true hj) ty v h1 hi, Result.andThen_ok]
  exact hK _ _ hh

/-! ### results that lie in blocks -/
theorem At.var {P : Program} {w : World} {g : Nat} {cs : Array Value} {t : TypeId} (h : At w g cs t) {ty : TypeId} {d : TypeDesc} (hu : P.underlying ty = some d) (hd : d.isRow = true) (hi : (P.info? ty).map (·.size) = some cs.size) :
    (loadVar ty ⟨g, 0, none⟩).run P w = .ok (.agg cs) w := by
  have := run_loadVar_mid (P := P) w g 0 ty cs.toList d (fun j v hv => by rw [h.cell]; simpa using hv) hu hd (by simpa using hi)
  simpa using this

theorem res_cell {P : Program} {fn : Func} {p : Tmp} {ty : TypeId} (h : fn.results = #[.cell p ty]) {tmps : Array Value} {w : World} {g : Nat} {cs : Array Value} {t : TypeId}
    (hp : tmps.getD p undef = .pointer (some ⟨g, 0, none⟩)) (ha : At w g cs t) {d : TypeDesc} (hu : P.underlying ty = some d) (hd : d.isRow = true) (hi : (P.info? ty).map (·.size) = some cs.size) :
    (results fn tmps).run P w = .ok (.agg cs) w := by
  have hp' : tmps[p]?.getD undef = .pointer (some ⟨g, 0, none⟩) := by simpa using hp
  simp only [results, h]
  simp [Sem.run_bind, Result.andThen, hp', asAddr, ha.var hu hd hi]

theorem res_cell_tmp {P : Program} {fn : Func} {p u : Tmp} {ty : TypeId} (h : fn.results = #[.cell p ty, .tmp u]) {tmps : Array Value} {w : World} {g : Nat} {cs : Array Value} {t : TypeId}
    (hp : tmps.getD p undef = .pointer (some ⟨g, 0, none⟩)) (ha : At w g cs t) {d : TypeDesc} (hu : P.underlying ty = some d) (hd : d.isRow = true) (hi : (P.info? ty).map (·.size) = some cs.size) :
    (results fn tmps).run P w = .ok (.tuple #[.agg cs, tmps.getD u undef]) w := by
  rw [results_cell_tmp h, hp]
  simp [asAddr, ha.var hu hd hi, Result.andThen]

theorem res_cell_cell {P : Program} {fn : Func} {p q : Tmp} {ty ty' : TypeId} (h : fn.results = #[.cell p ty, .cell q ty']) {tmps : Array Value} {w : World} {g g' : Nat} {cs cs' : Array Value} {t t' : TypeId}
    (hp : tmps.getD p undef = .pointer (some ⟨g, 0, none⟩)) (ha : At w g cs t) {d : TypeDesc} (hu : P.underlying ty = some d) (hd : d.isRow = true) (hi : (P.info? ty).map (·.size) = some cs.size)
    (hq : tmps.getD q undef = .pointer (some ⟨g', 0, none⟩)) (ha' : At w g' cs' t') {d' : TypeDesc} (hu' : P.underlying ty' = some d') (hd' : d'.isRow = true) (hi' : (P.info? ty').map (·.size) = some cs'.size) :
    (results fn tmps).run P w = .ok (.tuple #[.agg cs, .agg cs']) w := by
  have hp' : tmps[p]?.getD undef = .pointer (some ⟨g, 0, none⟩) := by simpa using hp
  have hq' : tmps[q]?.getD undef = .pointer (some ⟨g', 0, none⟩) := by simpa using hq
  simp only [results, h]
  simp [Sem.run_bind, Result.andThen, hp', hq', asAddr, ha.var hu hd hi, ha'.var hu' hd' hi']
end

section
set_option linter.unusedVariables false
set_option linter.unusedSimpArgs false
open Go.RowKit

section
variable {P : Program} {l : List Oper} {Q : Exit → Act → World → Prop} {G : Nat → Prop}

/-- as wpMix, over Ke G. -/
def wpMixK (P : Program) (l : List Oper) (Q : Exit → Act → World → Prop) (G : Nat → Prop) : List (List Nat × Nat) → List Nat → Act → World → Prop
  | [], fin, a, w => wpQuiet P l.toArray (fun w' => ∃ x : Later (Ke G w), w' = x.w) (fun a' => Q .normal a' w) (pickOps l fin) a
  | (qs, i) :: rest, fin, a, w => wpQuiet P l.toArray (fun w' => ∃ x : Later (Ke G w), w' = x.w)
      (fun a' => wpList P l.toArray (Exit.then (fun a'' w'' => Ke G w w'' ∧ wpMixK P l Q G rest fin a'' w'') Q) (pickOps l [i]) a' w) (pickOps l qs) a

theorem mixK_any (hs : Region.noSelect l.toArray = true) (hQ : ∀ c a d v w, Q (.panic c) (Act.put a d v) w → Q (.panic c) a w) : ∀ (sched : List (List Nat × Nat)) (fin : List Nat) (listed : Array Bool) (a : Act) (w : World),
    mixB l.toArray sched fin listed = true → wpMixK P l Q G sched fin a w → wpAnyH P .any l.toArray Q (Ke G w) (total sched fin) listed a w
  | [], fin, listed, a, w, hB, h => by
    simp only [mixB, Bool.and_eq_true, List.isEmpty_iff] at hB
    have := quiets_take hs hQ (C := Ke G w) (Ke.refl _ _) 0 fin listed a hB.1 (by
      refine cast ?_ h
      unfold wpMixK
      congr 1
      funext a'
      exact propext ⟨fun h => wpAnyH_done hB.2 h 0, fun h => h.2⟩)
    simpa [total] using this
  | (qs, i) :: rest, fin, listed, a, w, hB, h => by
    simp only [mixB, Bool.and_eq_true, beq_iff_eq] at hB
    obtain ⟨⟨h1, h2⟩, h3⟩ := hB
    unfold wpMixK at h
    refine quiets_take hs hQ (Ke.refl _ _) (total rest fin + 1) qs listed a h1 ?_
    refine wpQuiet_mono (fun a' h' => ?_) _ _ h
    refine wpAnyH_all h2 (by simp) fun j hj => ?_
    obtain rfl : j = i := by simpa using hj
    have hi : l.toArray[j]? = nth l j := by rw [nth_eq]; simp
    unfold wpOp
    rw [hi]
    have next : ∀ a'' w'', Ke G w w'' ∧ wpMixK P l Q G rest fin a'' w'' → Ke G w w'' ∧ wpAnyH P .any l.toArray Q (Ke G w) (total rest fin) ((marks listed qs).setIfInBounds j true) a'' w'' := fun a'' w'' h'' =>
      ⟨h''.1, wpAnyH_weak (fun w' hw' => h''.1.trans hw') _ _ _ _ (mixK_any hs hQ rest fin _ a'' w'' h3 h''.2)⟩
    cases ho : nth l j with
    | none =>
      rw [ho] at hi
      have : j ∈ Region.ready .any l.toArray (marks listed qs) := by rw [h2]; simp
      obtain ⟨_, o, hoo, _⟩ := mem_ready.1 this
      rw [hi] at hoo
      cases hoo
    | some o =>
      simp only [pickOps, ho, wpList] at h'
      simp only
      split
      · rename_i hw
        simp only [hw, if_true] at h'
        rcases h' with h' | h'
        · exact .inl (Oper.wp_mono next (wp_then h'))
        · exact .inr h'
      · rename_i hw
        simp only [hw] at h'
        exact next _ _ h'

/-- THE LAW. -/
theorem wp_region_mixK {id : Nat} {a : Act} {w : World} (G : Nat → Prop) (sched : List (List Nat × Nat)) (fin : List Nat) (hm : P.follows .mixedOrders = true) (hB : regionB l sched fin = true)
    (hQ : ∀ c a d v w, Q (.panic c) (Act.put a d v) w → Q (.panic c) a w) (h : ∀ wd, Below w.heap.size w wd → wpMixK P l Q G sched fin a wd) : (Code.region id l.toArray true).wp P Q a w := by
  simp only [regionB, Bool.and_eq_true, beq_iff_eq] at hB
  obtain ⟨⟨h1, h2⟩, h3⟩ := hB
  refine wp_region_held (S := Ke G w.drew) hm ?_
  rw [← h2] at h3 ⊢
  exact mixK_any h1 hQ sched fin _ a _ h3 (h _ (Below.refl _ _).drew)

theorem mixK_step {a : Act} {w : World} {qs : List Nat} {i : Nat} {rest : List (List Nat × Nat)} {fin : List Nat}
    (h : wpQuiet P l.toArray (fun w' => ∃ x : Later (Ke G w), w' = x.w) (fun a' => wpList P l.toArray (Exit.then (fun a'' w'' => Ke G w w'' ∧ wpMixK P l Q G rest fin a'' w'') Q) (pickOps l [i]) a' w) (pickOps l qs) a) : wpMixK P l Q G ((qs, i) :: rest) fin a w := h
theorem mixK_end {a : Act} {w : World} {fin : List Nat}
    (h : wpQuiet P l.toArray (fun w' => ∃ x : Later (Ke G w), w' = x.w) (fun a' => Q .normal a' w) (pickOps l fin) a) : wpMixK P l Q G [] fin a w := h

end

instance laterK_ne (G : Nat → Prop) (w : World) : Nonempty (Later (Ke G w)) := ⟨⟨w, Ke.refl _ _⟩⟩
/-- cells of blocks that are not written, in every world of the segment. -/
theorem At.later {G : Nat → Prop} {w : World} {g : Nat} {cs : Array Value} {t : TypeId} (h : At w g cs t) (hG : ¬ G g) (x : Later (Ke G w)) : At x.w g cs t := h.ke x.ok hG
theorem At.laterB {w : World} {g : Nat} {cs : Array Value} {t : TypeId} (h : At w g cs t) (x : Later (Below w.heap.size w)) : At x.w g cs t := h.bel x.ok
theorem At.laterCell {G : Nat → Prop} {w : World} {g : Nat} {cs : Array Value} {t : TypeId} (h : At w g cs t) (hG : ¬ G g) (j : Nat) {v : Value} (hv : cs[j]? = some v) (x : Later (Ke G w)) : x.w.cell? ⟨g, j, none⟩ = some v := ((h.later hG x).cell j).trans hv
theorem At.laterCellB {w : World} {g : Nat} {cs : Array Value} {t : TypeId} (h : At w g cs t) (j : Nat) {v : Value} (hv : cs[j]? = some v) (x : Later (Below w.heap.size w)) : x.w.cell? ⟨g, j, none⟩ = some v := ((h.laterB x).cell j).trans hv
/-- a whole struct's load, in every world of the segment. -/
theorem At.loads {P : Program} {w : World} {g : Nat} {cs : Array Value} {t : TypeId} (h : At w g cs t) {ty : TypeId} {d : TypeDesc} (hu : P.underlying ty = some d) (hd : d.isRow = true) (hi : (P.info? ty).map (·.size) = some cs.size) :
    (Instr.loadAt ty (.pointer (some ⟨g, 0, none⟩))).run P w = .ok (.agg cs) w := by
  simp only [Instr.loadAt, Instr.sureAddr, Sem.run_bind, Sem.run_pure, Result.andThen_ok, h.var hu hd hi]

/-- a whole struct's load in a quiet walk: 'go_big_quiet_want; refine quiet_row T _ rfl rfl (fun x => l x) ?_; go_big_quiet_on'. -/
theorem quiet_row {P : Program} {R : World → Prop} {K : Act → Prop} {a : Act} {o : Oper} (ty : TypeId) (x : Operand) (ho : o.op = .load ty x) {g : Nat} {cs : Array Value} (hx : a.eval x = .pointer (some ⟨g, 0, none⟩))
    (hl : ∀ y : Later R, (Instr.loadAt ty (.pointer (some ⟨g, 0, none⟩))).run P y.w = .ok (.agg cs) y.w) (hk : K (a.put o.dst (.agg cs))) : o.quiet P a (fun w' => ∃ y : Later R, w' = y.w) K :=
  ⟨_, fun w hw => by
    obtain ⟨y, rfl⟩ := hw
    unfold Oper.quietAt execOp
    simp only [ho, hx, Sem.run_bind, hl y, Result.andThen_ok]
    exact ⟨rfl, rfl⟩, hk⟩
end

section
set_option linter.unusedVariables false
set_option linter.unusedSimpArgs false
open Go.RowKit

section
variable {P : Program} {ops : Array Oper} {rest : List Oper} {o : Oper} {a : Act} {w : World} {Q : Exit → Act → World → Prop}

theorem run_alloc {P : Program} (w : World) (ty : TypeId) {z : Value} {cs : Array Value} (hz : (P.info? ty).map (·.zero) = some (some z)) (hc : z.cells = cs) :
    (Instr.alloc ty true (.tuple #[])).run P w = .ok (.pointer (some ⟨w.heap.size, 0, none⟩)) (w.alloc (.cells cs ty)) := by
  cases hq : P.info? ty with
  | none => simp [hq] at hz
  | some i =>
    have hs : i.zero = some z := by simpa [hq] using hz
    subst hc
    simp [Instr.alloc, zeroValue, typeInfo, hq, hs, newVar, newRow, go_sem]

/-- a new variable. -/
theorem alloc_sep (hgd : o.guard = none) (ty : TypeId) (ho : o.op = .alloc ty) {l : List Row} (H : Sep w l) {z : Value} {cs : Array Value} (hz : (P.info? ty).map (·.zero) = some (some z)) (hc : z.cells = cs)
    (h : ∀ w', Sep w' ((w.heap.size, cs, ty) :: l) → Below w.heap.size w w' → w'.heap.size = w.heap.size + 1 → wpList P ops Q rest (a.put o.dst (.pointer (some ⟨w.heap.size, 0, none⟩))) w') : wpList P ops Q (o :: rest) a w := by
  have hh := h _ (H.alloc cs ty) (bel1 w _) (by simp)
  refine wpList_plain hgd fun K hK => ?_
  unfold Oper.wp execOp
  simp only [ho, Sem.run_bind, run_alloc (P := P) w ty hz hc, Result.andThen_ok]
  exact hK _ _ hh

/-- a parameter boxed. -/
theorem box_sep (hgd : o.guard = none) (ty : TypeId) (x : Operand) (ho : o.op = .box ty x) {l : List Row} (H : Sep w l) {v : Value} {cs : Array Value} (hx : a.eval x = v) (hc : v.cells = cs)
    (h : ∀ w', Sep w' ((w.heap.size, cs, ty) :: l) → Below w.heap.size w w' → w'.heap.size = w.heap.size + 1 → wpList P ops Q rest (a.put o.dst (.pointer (some ⟨w.heap.size, 0, none⟩))) w') : wpList P ops Q (o :: rest) a w := by
  have hh := h _ (H.alloc cs ty) (bel1 w _) (by simp)
  subst hc
  refine wpList_plain hgd fun K hK => ?_
  have hr : (execOp a.eval o).run P w = .ok (.value (.pointer (some ⟨w.heap.size, 0, none⟩))) (w.alloc (.cells v.cells ty)) := by
    have hb : (Instr.box ty v).run P w = .ok (.pointer (some ⟨w.heap.size, 0, none⟩)) (w.alloc (.cells v.cells ty)) := by simp [Instr.box, newVar, newRow, go_sem]
    unfold execOp
    simp only [ho, hx, Sem.run_bind, hb, Result.andThen_ok]
    rfl
  unfold Oper.wp
  rw [hr]
  exact hK _ _ hh

end
end

section
set_option linter.unusedVariables false
set_option linter.unusedSimpArgs false
open Go.RowKit

section
variable {P : Program} {ops : Array Oper} {Q : Exit → Act → World → Prop} {S S' : World → Prop} {T : Nat}

/-- whatever order is picked; S holds behind each operation till T has come up. -/
def wpAnyL (P : Program) (ops : Array Oper) (Q : Exit → Act → World → Prop) (T : Nat) (S : World → Prop) : Nat → Array Bool → Act → World → Prop
  | 0, L, a, w => Region.ready .any ops L = [] ∧ Q .normal a w
  | fuel + 1, L, a, w => (Region.ready .any ops L = [] → Q .normal a w) ∧
    ∀ i ∈ Region.ready .any ops L, wpOp P ops Q i (fun a' w' => ((L.setIfInBounds i true).getD T false = false → S w') ∧ wpAnyL P ops Q T S fuel (L.setIfInBounds i true) a' w') a w

theorem wpAny_of_L : ∀ (fuel : Nat) (L : Array Bool) (a : Act) (w : World), wpAnyL P ops Q T S fuel L a w → wpAny P .any ops Q fuel L a w
  | 0, _, _, _, h => h
  | fuel + 1, _, _, _, h => ⟨h.1, fun i hi => wpOp_mono (fun a' w' h' => wpAny_of_L fuel _ a' w' h'.2) (h.2 i hi)⟩

theorem wpAnyL_weak (h : ∀ w, S' w → S w) : ∀ (fuel : Nat) (L : Array Bool) (a : Act) (w : World), wpAnyL P ops Q T S' fuel L a w → wpAnyL P ops Q T S fuel L a w
  | 0, _, _, _, hh => hh
  | fuel + 1, _, _, _, hh => ⟨hh.1, fun i hi => wpOp_mono (fun a' w' h' => ⟨fun hT => h w' (h'.1 hT), wpAnyL_weak h fuel _ a' w' h'.2⟩) (hh.2 i hi)⟩

/-- what has come up has what it waits for behind it. -/
def Shut (ops : Array Oper) (L : Array Bool) : Prop := ∀ (k : Nat) (o : Oper), L.getD k false = true → ops[k]? = some o → ∀ e ∈ o.after, Region.binds .any e = true → L.getD e.on false = true

theorem Shut.set {L : Array Bool} {j : Nat} (h : Shut ops L) (hj : j ∈ Region.ready .any ops L) : Shut ops (L.setIfInBounds j true) := by
  intro k o hk ho e he hb
  by_cases hkj : j = k
  · subst hkj
    obtain ⟨_, o', h2, h3⟩ := mem_ready.1 hj
    rw [ho] at h2; cases h2
    exact getD_set_true (h3 e he hb)
  · rw [getD_set_ne false hkj] at hk
    exact getD_set_true (h k o hk ho e he hb)

/-- the worlds in which i may come up. -/
def May (ops : Array Oper) (T : Nat) (S : World → Prop) (i : Nat) (w : World) : Prop := ∃ L : Array Bool, Shut ops L ∧ L.getD i true = false ∧ (L.getD T false = false → S w)

theorem wpAnyL_first {i : Nat} {oi : Oper} {v : Value} (hi : ops[i]? = some oi) (hiT : i ≠ T) (hsel : ∀ (j : Nat) (o : Oper) cs b, ops[j]? = some o → o.op ≠ .select cs b)
    (hQ : ∀ c a w, Q (.panic c) (a.put oi.dst v) w → Q (.panic c) a w) : ∀ (fuel : Nat) (L : Array Bool) (a : Act) (w : World),
      (∀ j oj, ops[j]? = some oj → j ≠ i → L.getD j true = false → (∀ e ∈ oj.after, Region.binds .any e = true → e.on ≠ i) → oi.apart ops oj = true) →
      i ∈ Region.ready .any ops L → YieldsIf P ops (May ops T S i) oi v a → Shut ops L → (L.getD T false = false → S w) →
      wpAnyL P ops Q T S fuel (L.setIfInBounds i true) (a.put oi.dst v) w → wpAnyL P ops Q T S (fuel + 1) L a w := by
  intro fuel
  induction fuel with
  | zero =>
    intro L a w _ hr hy hc hS H
    refine ⟨fun h => (by rw [h] at hr; cases hr), fun j hj => ?_⟩
    by_cases hji : j = i
    · subst hji; exact hy.wpOp hi ⟨L, hc, (mem_ready.1 hr).1, hS⟩ ⟨fun h => hS (by rwa [getD_set_ne false hiT] at h), H⟩
    · have := ready_mono hj hji
      rw [H.1] at this
      cases this
  | succ fuel ih =>
    intro L a w hfree hr hy hc hS H
    refine ⟨fun h => (by rw [h] at hr; cases hr), fun j hj => ?_⟩
    by_cases hji : j = i
    · subst hji; exact hy.wpOp hi ⟨L, hc, (mem_ready.1 hr).1, hS⟩ ⟨fun h => hS (by rwa [getD_set_ne false hiT] at h), H⟩
    · have h1 := H.2 j (ready_mono hj hji)
      obtain ⟨hjun, oj, hoj, hall⟩ := mem_ready.1 hj
      have hnot : ∀ e ∈ oj.after, Region.binds .any e = true → e.on ≠ i := fun e he hb heq => by
        have h1 := hall e he hb
        have h0 := (mem_ready.1 hr).1
        rw [heq] at h1
        rcases Nat.lt_or_ge i L.size with h' | h'
        · simp [h'] at h0 h1; rw [h0] at h1; cases h1
        · simp [Array.getElem?_eq_none h'] at h1
      have h2 := wpOp_putIf hoj (hfree j oj hoj hji hjun hnot) (fun cs b => hsel i oi cs b hi) (fun cs b => hsel j oj cs b hoj) hQ hy h1
      have hfree' : ∀ k ok, ops[k]? = some ok → k ≠ i → (L.setIfInBounds j true).getD k true = false →
          (∀ e ∈ ok.after, Region.binds .any e = true → e.on ≠ i) → oi.apart ops ok = true := fun k ok hk hki hun hno => by
        refine hfree k ok hk hki ?_ hno
        by_cases hjk : j = k
        · subst hjk; exact hjun
        · rw [getD_set_ne true hjk] at hun; exact hun
      refine wpOp_mono (fun a' w' h3 => ?_) h2
      obtain ⟨h4, h5, h6⟩ := h3
      rw [Array.setIfInBounds_comm _ _ (Ne.symm hji)] at h5 h6
      have h7 : (L.setIfInBounds j true).getD T false = false → S w' := fun h => h5 (by rw [getD_set_ne false hiT]; exact h)
      exact ⟨h7, ih (L.setIfInBounds j true) a' w' hfree' (ready_mono hr (Ne.symm hji)) h4 (hc.set hj) h7 h6⟩

end

/-- the store waits, by way of others, for each of a list: each is waited for by one before it. -/
def ancB (ops : Array Oper) : List Nat → List Nat → Bool
  | [], _ => true
  | k :: ks, pre => pre.any (fun j => match ops[j]? with | some o => o.after.any (fun e => Region.binds .any e && e.on == k) | none => false) && ancB ops ks (k :: pre)

theorem anc_spec {ops : Array Oper} {L : Array Bool} (hc : Shut ops L) : ∀ (ks pre : List Nat), ancB ops ks pre = true → (∀ j ∈ pre, L.getD j false = true) → ∀ k ∈ ks, L.getD k false = true
  | [], _, _, _ => fun _ h => (List.not_mem_nil h).elim
  | k :: ks, pre, hB, hp => by
    simp only [ancB, Bool.and_eq_true, List.any_eq_true] at hB
    obtain ⟨⟨j, hj, hm⟩, h2⟩ := hB
    have hk : L.getD k false = true := by
      cases ho : ops[j]? with
      | none => rw [ho] at hm; cases hm
      | some o =>
        rw [ho] at hm
        simp only [Array.any_eq_true'] at hm
        obtain ⟨e, he, h3⟩ := hm
        simp only [Bool.and_eq_true, beq_iff_eq] at h3
        rw [← h3.2]
        exact hc j o (hp j hj) ho e he h3.1
    intro x hx
    rcases List.mem_cons.1 hx with rfl | hx
    · exact hk
    · exact anc_spec hc ks (k :: pre) h2 (fun j hj => by rcases List.mem_cons.1 hj with rfl | hj; exact hk; exact hp j hj) x hx

def mixTB (ops : Array Oper) (qsT : List Nat) (T : Nat) (early : List Nat) : List (List Nat × Nat) → Array Bool → Bool
  | [], L => quietsB ops qsT L && (Region.ready .any ops (marks L qsT) == [T]) && (Region.ready .any ops ((marks L qsT).setIfInBounds T true)).isEmpty && qsT.all (· != T) && !L.getD T true && ((marks L qsT).setIfInBounds T true).getD T false
  | (qs, i) :: rest, L => quietsB ops qs L && (Region.ready .any ops (marks L qs) == [i]) && qs.all (fun q => early.contains q && q != T) && (i != T) && !L.getD T true && mixTB ops qsT T early rest ((marks L qs).setIfInBounds i true)
def totalT (qsT : List Nat) : List (List Nat × Nat) → Nat
  | [] => 1 + qsT.length
  | (qs, _) :: rest => totalT qsT rest + 1 + qs.length
def tailB (l : List Oper) (sched : List (List Nat × Nat)) (qsT : List Nat) (T : Nat) (early : List Nat) : Bool :=
  Region.noSelect l.toArray && totalT qsT sched == l.toArray.size && ancB l.toArray early [T] && mixTB l.toArray qsT T early sched (Array.replicate l.toArray.size false)

section
variable {P : Program} {l : List Oper} {Q : Exit → Act → World → Prop} {S : World → Prop} {T : Nat}

theorem marks_T {T : Nat} : ∀ (is : List Nat) (L : Array Bool) (d : Bool), (∀ i ∈ is, i ≠ T) → (marks L is).getD T d = L.getD T d
  | [], _, _, _ => rfl
  | i :: is, L, d, h => by rw [marks, marks_T is _ _ (fun j hj => h j (List.mem_cons_of_mem _ hj)), getD_set_ne d (h i (List.mem_cons_self ..))]

theorem getD_bit {L : Array Bool} {T : Nat} (h : L.getD T true = false) : L.getD T false = false := by
  rcases Nat.lt_or_ge T L.size with h' | h'
  · simp [h'] at h ⊢; exact h
  · simp [Array.getElem?_eq_none h']

theorem quiets_takeT (C : World → Prop) (hs : Region.noSelect l.toArray = true) (hQ : ∀ c a d v w, Q (.panic c) (Act.put a d v) w → Q (.panic c) a w) {w : World} (hS : S w) (fuel : Nat) : ∀ (is : List Nat) (L : Array Bool) (a : Act),
    (∀ i ∈ is, i ≠ T) → (∀ i ∈ is, ∀ w', May l.toArray T S i w' → C w') → Shut l.toArray L →
    quietsB l.toArray is L = true → wpQuiet P l.toArray (fun w' => ∃ x : Later C, w' = x.w) (fun a' => ∀ L', Shut l.toArray L' → L' = marks L is → wpAnyL P l.toArray Q T S fuel (marks L is) a' w) (pickOps l is) a →
    wpAnyL P l.toArray Q T S (fuel + is.length) L a w
  | [], L, a, _, _, hc, _, h => h L hc rfl
  | i :: is, L, a, hT, hC, hc, hB, h => by
    simp only [quietsB, Bool.and_eq_true] at hB
    obtain ⟨⟨⟨h1, h2⟩, h3⟩, h4⟩ := hB
    have hi : l.toArray[i]? = nth l i := by rw [nth_eq]; simp
    have hrd : i ∈ Region.ready .any l.toArray L := by simpa using h1
    cases ho : nth l i with
    | none => rw [hi, ho] at h3; simp at h3
    | some o =>
      rw [hi, ho] at h3
      rw [ho] at hi
      simp only [pickOps, ho, wpQuiet] at h
      show wpAnyL P l.toArray Q T S ((fuel + is.length) + 1) L a w
      have hTi := hT i (List.mem_cons_self ..)
      have hCi := hC i (List.mem_cons_self ..)
      have rest := fun a' h' => quiets_takeT C hs hQ hS fuel is (L.setIfInBounds i true) a' (fun j hj => hT j (List.mem_cons_of_mem _ hj)) (fun j hj => hC j (List.mem_cons_of_mem _ hj)) (hc.set hrd) h4 h'
      split at h
      · rename_i hw
        obtain ⟨v, hv, hn⟩ := h
        refine wpAnyL_first hi hTi (Region.noSelect_spec hs) (fun c a w => hQ c a o.dst v w) _ _ _ _ (Region.free_spec hi h2) hrd (v := v) (.inl ⟨hw, fun w' hw' => ?_⟩) hc (fun _ => hS) (rest _ hn)
        have h5 := hv w' ⟨⟨w', hCi w' hw'⟩, rfl⟩
        have h6 := pureOp_value (P := P) h3 a.eval w'
        unfold Oper.quietAt at h5
        generalize (execOp a.eval o).run P w' = r at h5 h6
        cases r with
        | halt x w'' => exact h5.elim
        | ok n w'' =>
          cases n with
          | value u =>
            simp only [Oper.quietUpon] at h5
            obtain ⟨rfl, rfl⟩ := h5
            rfl
          | _ => exact h6.elim
      · rename_i hw
        exact wpAnyL_first hi hTi (Region.noSelect_spec hs) (fun c a w => hQ c a o.dst undef w) _ _ _ _ (Region.free_spec hi h2) hrd (v := undef) (.inr ⟨by simpa using hw, rfl⟩) hc (fun _ => hS) (rest _ h)

/-- in segments; the last one's operations yield the same in whatever world; then the store. -/
def wpMixT (P : Program) (l : List Oper) (Q : Exit → Act → World → Prop) (qsT : List Nat) (T : Nat) : List (List Nat × Nat) → Act → World → Prop
  | [], a, w => wpQuiet P l.toArray (fun w' => ∃ x : Later (fun _ => True), w' = x.w) (fun a' => wpList P l.toArray (Exit.then (fun a'' w'' => Q .normal a'' w'') Q) (pickOps l [T]) a' w) (pickOps l qsT) a
  | (qs, i) :: rest, a, w => wpQuiet P l.toArray (fun w' => ∃ x : Later (RowKit.Below w.heap.size w), w' = x.w)
      (fun a' => wpList P l.toArray (Exit.then (fun a'' w'' => RowKit.Below w.heap.size w w'' ∧ wpMixT P l Q qsT T rest a'' w'') Q) (pickOps l [i]) a' w) (pickOps l qs) a

theorem op_of_list {L : Array Bool} {i : Nat} {K : Act → World → Prop} {a : Act} {w : World} (hr : i ∈ Region.ready .any l.toArray L) (h : wpList P l.toArray (Exit.then K Q) (pickOps l [i]) a w) : wpOp P l.toArray Q i K a w := by
  have hi : l.toArray[i]? = nth l i := by rw [nth_eq]; simp
  unfold wpOp
  rw [hi]
  cases ho : nth l i with
  | none =>
    rw [ho] at hi
    obtain ⟨_, o, hoo, _⟩ := mem_ready.1 hr
    rw [hi] at hoo
    cases hoo
  | some o =>
    simp only [pickOps, ho, wpList] at h
    simp only
    split
    · rename_i hw
      simp only [hw, if_true] at h
      rcases h with h | h
      · exact .inl (Oper.wp_mono (fun a' w' h => h) (wp_then h))
      · exact .inr h
    · rename_i hw
      simp only [hw] at h
      exact h

theorem mixT_any (hs : Region.noSelect l.toArray = true) (hQ : ∀ c a d v w, Q (.panic c) (Act.put a d v) w → Q (.panic c) a w) {qsT early : List Nat} (ha : ancB l.toArray early [T] = true) : ∀ (sched : List (List Nat × Nat)) (L : Array Bool) (a : Act) (w : World),
    Shut l.toArray L → mixTB l.toArray qsT T early sched L = true → wpMixT P l Q qsT T sched a w → wpAnyL P l.toArray Q T (RowKit.Below w.heap.size w) (totalT qsT sched) L a w
  | [], L, a, w, hc, hB, h => by
    simp only [mixTB, Bool.and_eq_true, beq_iff_eq, List.isEmpty_iff, List.all_eq_true, bne_iff_ne, Bool.not_eq_true'] at hB
    obtain ⟨⟨⟨⟨⟨h1, h2⟩, h3⟩, h4⟩, h5⟩, h6⟩ := hB
    unfold wpMixT at h
    refine quiets_takeT (fun _ => True) hs hQ (RowKit.Below.refl _ _) 1 qsT L a h4 (fun _ _ _ _ => trivial) hc h1 ?_
    refine wpQuiet_mono (fun a' h' => ?_) _ _ h
    rintro L' hc' rfl
    refine ⟨fun h0 => (by rw [h2] at h0; cases h0), fun j hj => ?_⟩
    have hj' := hj
    rw [h2] at hj'
    obtain rfl : j = T := by simpa using hj'
    refine wpOp_mono (fun a'' w'' hh => ?_) (op_of_list hj h')
    exact ⟨fun h0 => (by rw [h6] at h0; cases h0), h3, hh⟩
  | (qs, i) :: rest, L, a, w, hc, hB, h => by
    simp only [mixTB, Bool.and_eq_true, beq_iff_eq, List.all_eq_true, bne_iff_ne, Bool.not_eq_true'] at hB
    obtain ⟨⟨⟨⟨⟨h1, h2⟩, h3⟩, h4⟩, h5⟩, h6⟩ := hB
    unfold wpMixT at h
    refine quiets_takeT (RowKit.Below w.heap.size w) hs hQ (RowKit.Below.refl _ _) (totalT qsT rest + 1) qs L a (fun q hq => (h3 q hq).2) (fun q hq w' hm => ?_) hc h1 ?_
    · obtain ⟨L', hc', hq', hS'⟩ := hm
      refine hS' ?_
      cases hT : L'.getD T false with
      | false => rfl
      | true =>
        have := anc_spec hc' early [T] ha (fun j hj => by obtain rfl := List.mem_singleton.1 hj; exact hT) q (by simpa using (h3 q hq).1)
        rw [getD_bit hq'] at this
        cases this
    · refine wpQuiet_mono (fun a' h' => ?_) _ _ h
      rintro L' hc' rfl
      refine ⟨fun h0 => (by rw [h2] at h0; cases h0), fun j hj => ?_⟩
      have hj' := hj
      rw [h2] at hj'
      obtain rfl : j = i := by simpa using hj'
      refine wpOp_mono (fun a'' w'' hh => ?_) (op_of_list hj h')
      exact ⟨fun _ => hh.1, wpAnyL_weak (fun w' hw' => hh.1.trans (hw'.mono hh.1.size)) _ _ _ _ (mixT_any hs hQ ha rest _ a'' w'' (hc'.set hj) h6 hh.2)⟩

/-- THE LAW. -/
theorem wp_region_tail {id : Nat} {a : Act} {w : World} (sched : List (List Nat × Nat)) (qsT : List Nat) (T : Nat) (early : List Nat) (hm : P.follows .mixedOrders = true) (hB : tailB l sched qsT T early = true)
    (hQ : ∀ c a d v w, Q (.panic c) (Act.put a d v) w → Q (.panic c) a w) (h : ∀ wd, RowKit.Below w.heap.size w wd → wpMixT P l Q qsT T sched a wd) : (Code.region id l.toArray true).wp P Q a w := by
  simp only [tailB, Bool.and_eq_true, beq_iff_eq] at hB
  obtain ⟨⟨⟨h1, h2⟩, h3⟩, h4⟩ := hB
  refine wp_region_any hm ?_
  have h5 : wpAnyL P l.toArray Q T (RowKit.Below w.drew.heap.size w.drew) (totalT qsT sched) (Array.replicate l.toArray.size false) a w.drew := by
    refine mixT_any h1 hQ h3 sched _ a w.drew (fun k o hk => ?_) h4 (h _ (RowKit.Below.refl _ _).drew)
    rw [Array.getD_eq_getD_getElem?, Array.getElem?_replicate] at hk
    split at hk <;> cases hk
  rw [h2] at h5
  exact wpAny_of_L _ _ _ _ h5

end

theorem mixT_step {P : Program} {l : List Oper} {Q : Exit → Act → World → Prop} {a : Act} {w : World} {qs : List Nat} {i : Nat} {rest : List (List Nat × Nat)} {qsT : List Nat} {T : Nat}
    (h : wpQuiet P l.toArray (fun w' => ∃ x : Later (RowKit.Below w.heap.size w), w' = x.w) (fun a' => wpList P l.toArray (Exit.then (fun a'' w'' => RowKit.Below w.heap.size w w'' ∧ wpMixT P l Q qsT T rest a'' w'') Q) (pickOps l [i]) a' w) (pickOps l qs) a) : wpMixT P l Q qsT T ((qs, i) :: rest) a w := h
theorem mixT_end {P : Program} {l : List Oper} {Q : Exit → Act → World → Prop} {a : Act} {w : World} {qsT : List Nat} {T : Nat}
    (h : wpQuiet P l.toArray (fun w' => ∃ x : Later (fun _ => True), w' = x.w) (fun a' => wpList P l.toArray (Exit.then (fun a'' w'' => Q .normal a'' w'') Q) (pickOps l [T]) a' w) (pickOps l qsT) a) : wpMixT P l Q qsT T [] a w := h
instance later_any [h : Nonempty World] : Nonempty (Later (fun _ => True)) := h.elim fun w => ⟨⟨w, trivial⟩⟩
end

section
set_option linter.unusedVariables false
set_option linter.unusedSimpArgs false
open Go.RowKit

section
variable {P : Program} {l : List Oper} {Q : Exit → Act → World → Prop} {S : World → Prop} {T : Nat} {G : Nat → Prop}

/-- in segments; the last one's operations yield the same in whatever world; then the store. -/
def wpMixTK (G : Nat → Prop) (P : Program) (l : List Oper) (Q : Exit → Act → World → Prop) (qsT : List Nat) (T : Nat) : List (List Nat × Nat) → Act → World → Prop
  | [], a, w => wpQuiet P l.toArray (fun w' => ∃ x : Later (fun _ => True), w' = x.w) (fun a' => wpList P l.toArray (Exit.then (fun a'' w'' => Q .normal a'' w'') Q) (pickOps l [T]) a' w) (pickOps l qsT) a
  | (qs, i) :: rest, a, w => wpQuiet P l.toArray (fun w' => ∃ x : Later (Ke G w), w' = x.w)
      (fun a' => wpList P l.toArray (Exit.then (fun a'' w'' => Ke G w w'' ∧ wpMixTK G P l Q qsT T rest a'' w'') Q) (pickOps l [i]) a' w) (pickOps l qs) a

theorem mixT_anyK (hs : Region.noSelect l.toArray = true) (hQ : ∀ c a d v w, Q (.panic c) (Act.put a d v) w → Q (.panic c) a w) {qsT early : List Nat} (ha : ancB l.toArray early [T] = true) : ∀ (sched : List (List Nat × Nat)) (L : Array Bool) (a : Act) (w : World),
    Shut l.toArray L → mixTB l.toArray qsT T early sched L = true → wpMixTK G P l Q qsT T sched a w → wpAnyL P l.toArray Q T (Ke G w) (totalT qsT sched) L a w
  | [], L, a, w, hc, hB, h => by
    simp only [mixTB, Bool.and_eq_true, beq_iff_eq, List.isEmpty_iff, List.all_eq_true, bne_iff_ne, Bool.not_eq_true'] at hB
    obtain ⟨⟨⟨⟨⟨h1, h2⟩, h3⟩, h4⟩, h5⟩, h6⟩ := hB
    unfold wpMixTK at h
    refine quiets_takeT (fun _ => True) hs hQ (Ke.refl G _) 1 qsT L a h4 (fun _ _ _ _ => trivial) hc h1 ?_
    refine wpQuiet_mono (fun a' h' => ?_) _ _ h
    rintro L' hc' rfl
    refine ⟨fun h0 => (by rw [h2] at h0; cases h0), fun j hj => ?_⟩
    have hj' := hj
    rw [h2] at hj'
    obtain rfl : j = T := by simpa using hj'
    refine wpOp_mono (fun a'' w'' hh => ?_) (op_of_list hj h')
    exact ⟨fun h0 => (by rw [h6] at h0; cases h0), h3, hh⟩
  | (qs, i) :: rest, L, a, w, hc, hB, h => by
    simp only [mixTB, Bool.and_eq_true, beq_iff_eq, List.all_eq_true, bne_iff_ne, Bool.not_eq_true'] at hB
    obtain ⟨⟨⟨⟨⟨h1, h2⟩, h3⟩, h4⟩, h5⟩, h6⟩ := hB
    unfold wpMixTK at h
    refine quiets_takeT (Ke G w) hs hQ (Ke.refl G _) (totalT qsT rest + 1) qs L a (fun q hq => (h3 q hq).2) (fun q hq w' hm => ?_) hc h1 ?_
    · obtain ⟨L', hc', hq', hS'⟩ := hm
      refine hS' ?_
      cases hT : L'.getD T false with
      | false => rfl
      | true =>
        have := anc_spec hc' early [T] ha (fun j hj => by obtain rfl := List.mem_singleton.1 hj; exact hT) q (by simpa using (h3 q hq).1)
        rw [getD_bit hq'] at this
        cases this
    · refine wpQuiet_mono (fun a' h' => ?_) _ _ h
      rintro L' hc' rfl
      refine ⟨fun h0 => (by rw [h2] at h0; cases h0), fun j hj => ?_⟩
      have hj' := hj
      rw [h2] at hj'
      obtain rfl : j = i := by simpa using hj'
      refine wpOp_mono (fun a'' w'' hh => ?_) (op_of_list hj h')
      exact ⟨fun _ => hh.1, wpAnyL_weak (fun w' hw' => hh.1.trans hw') _ _ _ _ (mixT_anyK hs hQ ha rest _ a'' w'' (hc'.set hj) h6 hh.2)⟩

/-- THE LAW. -/
theorem wp_region_tailK {id : Nat} {a : Act} {w : World} (sched : List (List Nat × Nat)) (qsT : List Nat) (T : Nat) (early : List Nat) (hm : P.follows .mixedOrders = true) (hB : tailB l sched qsT T early = true)
    (hQ : ∀ c a d v w, Q (.panic c) (Act.put a d v) w → Q (.panic c) a w) (h : wpMixTK G P l Q qsT T sched a w.drew) : (Code.region id l.toArray true).wp P Q a w := by
  simp only [tailB, Bool.and_eq_true, beq_iff_eq] at hB
  obtain ⟨⟨⟨h1, h2⟩, h3⟩, h4⟩ := hB
  refine wp_region_any hm ?_
  have h5 : wpAnyL P l.toArray Q T (Ke G w.drew) (totalT qsT sched) (Array.replicate l.toArray.size false) a w.drew := by
    refine mixT_anyK h1 hQ h3 sched _ a w.drew (fun k o hk => ?_) h4 h
    rw [Array.getD_eq_getD_getElem?, Array.getElem?_replicate] at hk
    split at hk <;> cases hk
  rw [h2] at h5
  exact wpAny_of_L _ _ _ _ h5

end

theorem mixT_stepK {G : Nat → Prop} {P : Program} {l : List Oper} {Q : Exit → Act → World → Prop} {a : Act} {w : World} {qs : List Nat} {i : Nat} {rest : List (List Nat × Nat)} {qsT : List Nat} {T : Nat}
    (h : wpQuiet P l.toArray (fun w' => ∃ x : Later (Ke G w), w' = x.w) (fun a' => wpList P l.toArray (Exit.then (fun a'' w'' => Ke G w w'' ∧ wpMixTK G P l Q qsT T rest a'' w'') Q) (pickOps l [i]) a' w) (pickOps l qs) a) : wpMixTK G P l Q qsT T ((qs, i) :: rest) a w := h
theorem mixT_endK {G : Nat → Prop} {P : Program} {l : List Oper} {Q : Exit → Act → World → Prop} {a : Act} {w : World} {qsT : List Nat} {T : Nat}
    (h : wpQuiet P l.toArray (fun w' => ∃ x : Later (fun _ => True), w' = x.w) (fun a' => wpList P l.toArray (Exit.then (fun a'' w'' => Q .normal a'' w'') Q) (pickOps l [T]) a' w) (pickOps l qsT) a) : wpMixTK G P l Q qsT T [] a w := h
instance later_ke {G : Nat → Prop} {w : World} : Nonempty (Later (Ke G w)) := ⟨⟨w, Ke.refl G w⟩⟩
end

section
set_option linter.unusedVariables false
set_option linter.unusedSimpArgs false
open Go.RowKit

section
variable {P : Program} {l : List Oper} {Q : Exit → Act → World → Prop} {G : Nat → Prop}

/-- what is left of a region, behind what is listed. -/
structure Rest (P : Program) (l : List Oper) (Q : Exit → Act → World → Prop) (G : Nat → Prop) (n : Nat) (L : Array Bool) (a : Act) (w : World) : Prop where
  h : wpAnyH P .any l.toArray Q (Ke G w) n L a w
  
theorem rest_step (qs : List Nat) (js : List Nat) (hs : Region.noSelect l.toArray = true) (hQ : ∀ c a d v w, Q (.panic c) (Act.put a d v) w → Q (.panic c) a w) {n m : Nat} {L L' : Array Bool} {a : Act} {w : World}
    (hB : quietsB l.toArray qs L = true) (hL : marks L qs = L') (hr : Region.ready .any l.toArray L' = js) (hne : js ≠ []) (hm : m = n + 1 + qs.length)
    (h : wpQuiet P l.toArray (fun w' => ∃ x : Later (Ke G w), w' = x.w) (fun a' => ∀ j ∈ js, wpList P l.toArray (Exit.then (fun a'' w'' => Ke G w w'' ∧ Rest P l Q G n (L'.setIfInBounds j true) a'' w'') Q) (pickOps l [j]) a' w) (pickOps l qs) a) : Rest P l Q G m L a w := by
  subst hm hL
  refine ⟨quiets_take hs hQ (Ke.refl _ _) (n + 1) qs L a hB ?_⟩
  refine wpQuiet_mono (fun a' h' => ?_) _ _ h
  refine wpAnyH_all hr (fun e => hne (by simpa using e)) fun j hj => ?_
  replace h' := h' j hj
  have hi : l.toArray[j]? = nth l j := by rw [nth_eq]; simp
  unfold wpOp
  rw [hi]
  have next : ∀ a'' w'', Ke G w w'' ∧ Rest P l Q G n ((marks L qs).setIfInBounds j true) a'' w'' → Ke G w w'' ∧ wpAnyH P .any l.toArray Q (Ke G w) n ((marks L qs).setIfInBounds j true) a'' w'' := fun a'' w'' h'' =>
    ⟨h''.1, wpAnyH_weak (fun w' hw' => h''.1.trans hw') _ _ _ _ h''.2.h⟩
  cases ho : nth l j with
  | none =>
    rw [ho] at hi
    have : j ∈ Region.ready .any l.toArray (marks L qs) := by rw [hr]; exact hj
    obtain ⟨_, o, hoo, _⟩ := mem_ready.1 this
    rw [hi] at hoo
    cases hoo
  | some o =>
    simp only [pickOps, ho, wpList] at h'
    simp only
    split
    · rename_i hw
      simp only [hw, if_true] at h'
      rcases h' with h' | h'
      · exact .inl (Oper.wp_mono next (wp_then h'))
      · exact .inr h'
    · rename_i hw
      simp only [hw] at h'
      exact next _ _ h'

theorem rest_end (qs : List Nat) (hs : Region.noSelect l.toArray = true) (hQ : ∀ c a d v w, Q (.panic c) (Act.put a d v) w → Q (.panic c) a w) {m : Nat} {L : Array Bool} {a : Act} {w : World}
    (hB : quietsB l.toArray qs L = true) (hr : (Region.ready .any l.toArray (marks L qs)).isEmpty = true) (hm : m = 0 + qs.length)
    (h : wpQuiet P l.toArray (fun w' => ∃ x : Later (Ke G w), w' = x.w) (fun a' => Q .normal a' w) (pickOps l qs) a) : Rest P l Q G m L a w := by
  subst hm
  rw [List.isEmpty_iff] at hr
  refine ⟨quiets_take hs hQ (Ke.refl _ _) 0 qs L a hB ?_⟩
  refine cast ?_ h
  congr 1
  funext a'
  exact propext ⟨fun h => wpAnyH_done hr h 0, fun h => h.2⟩

theorem wp_region_rest {id : Nat} {a : Act} {w : World} (G : Nat → Prop) (n : Nat) (hm : P.follows .mixedOrders = true) (hn : l.toArray.size = n)
    (h : ∀ wd, Below w.heap.size w wd → Rest P l Q G n (Array.replicate n false) a wd) : (Code.region id l.toArray true).wp P Q a w := by
  subst hn
  refine wp_region_held (S := Ke G w.drew) hm ?_
  exact (h _ (Below.refl _ _).drew).h

theorem all1 {p : Nat → Prop} {i : Nat} (h : p i) : ∀ j ∈ [i], p j := fun j hj => by obtain rfl := List.mem_singleton.1 hj; exact h
theorem all2 {p : Nat → Prop} {i k : Nat} (h : p i) (h' : p k) : ∀ j ∈ [i, k], p j := fun j hj => by
  rcases List.mem_cons.1 hj with rfl | hj
  · exact h
  · exact all1 h' j hj
theorem all3 {p : Nat → Prop} {i k m : Nat} (h : p i) (h' : p k) (h'' : p m) : ∀ j ∈ [i, k, m], p j := fun j hj => by
  rcases List.mem_cons.1 hj with rfl | hj
  · exact h
  · exact all2 h' h'' j hj
end
end

section
set_option linter.unusedVariables false
set_option linter.unusedSimpArgs false
open Go.RowKit

section
variable {P : Program} {ops : Array Oper} {Q : Exit → Act → World → Prop} {a : Act} {w : World} {rest : List Oper} {o : Oper}

theorem wp_const {C : Prop} (h : o.wp P a w (fun _ _ => C) (fun _ _ _ => False)) : C := by
  unfold Oper.wp at h
  generalize (execOp a.eval o).run P w = r at h
  cases r with
  | ok n w' =>
    cases n <;> simp only [Oper.upon] at h <;> first | exact h | skip
    · have hh := h
      obtain ⟨e, w'', fr, hR, _⟩ := hh []
      cases e with
      | returned v => exact hR
      | panicked c => exact hR.elim
      | outgrown => obtain ⟨a', w3, h3⟩ := hR; exact h3.elim
    · obtain ⟨v, w'', hR, _⟩ := h (Frame.enter P 0 #[] .normal) []
      exact hR
  | halt x w' => cases x <;> simp only [Oper.upon] at h

/-- what stands under a guard G: run, where G holds, it yields v; the slot holds 'if G then v else undef'. -/
theorem guard_law {G : Bool} {v : Value} (hw : Region.wanted o (yielded ops a.tmps) = G) (h1 : G = true → o.wp P a w (fun a2 w2 => a2 = a.put o.dst v ∧ w2 = w) (fun _ _ _ => False)) {a' : Act} (hp : a.put o.dst (if G then v else undef) = a')
    (h : wpList P ops Q rest a' w) : wpList P ops Q (o :: rest) a w := by
  subst hp
  unfold wpList
  rw [hw]
  cases G with
  | true =>
    rw [if_pos rfl]
    have h2 := h1 rfl
    left
    unfold Oper.wp at *
    generalize (execOp a.eval o).run P w = r at h2
    cases r with
    | ok n w' =>
      cases n <;> simp only [Oper.upon] at h2 ⊢
      all_goals first
        | (obtain ⟨e1, rfl⟩ := h2; rw [e1]; exact h)
        | (refine Calls.mono h2 fun e w'' he => ?_
           cases e with
           | returned u => obtain ⟨e1, rfl⟩ := he; show wpList P ops Q rest _ _; rw [e1]; exact h
           | panicked c => exact he.elim
           | outgrown => obtain ⟨a', w3, h3⟩ := he; exact h3.elim)
        | exact Rows.mono h2 fun u w'' he => by obtain ⟨e1, rfl⟩ := he; rw [e1]; exact h
    | halt x w' => cases x <;> simp only [Oper.upon] at h2
  | false =>
    rw [if_neg (by simp)]
    exact h

theorem guard_t {j : Nat} {g : Bool} (hgd : o.guard = some (j, true)) (hy : yielded ops a.tmps j = some g) : Region.wanted o (yielded ops a.tmps) = g := by
  unfold Region.wanted; rw [hgd]; simp only [hy]; cases g <;> rfl
theorem guard_f {j : Nat} {g : Bool} (hgd : o.guard = some (j, false)) (hy : yielded ops a.tmps j = some g) : Region.wanted o (yielded ops a.tmps) = !g := by
  unfold Region.wanted; rw [hgd]; simp only [hy]; cases g <;> rfl
theorem guard_tt {j d : Nat} {G g : Bool} {oj : Oper} (hgd : o.guard = some (j, true)) (ho : ops[j]? = some oj) (hd : oj.dst = some d) (hy : a.tmps[d]? = some (if G then .bool g else undef)) : Region.wanted o (yielded ops a.tmps) = (G && g) := by
  unfold Region.wanted yielded; rw [hgd]; simp only [ho, Option.bind_some, hd, hy]; cases G <;> cases g <;> rfl
theorem guard_ff {j d : Nat} {G g : Bool} {oj : Oper} (hgd : o.guard = some (j, false)) (ho : ops[j]? = some oj) (hd : oj.dst = some d) (hy : a.tmps[d]? = some (if G then .bool g else undef)) : Region.wanted o (yielded ops a.tmps) = (G && !g) := by
  unfold Region.wanted yielded; rw [hgd]; simp only [ho, Option.bind_some, hd, hy]; cases G <;> cases g <;> rfl

/-- 'x && y', 'x || y' joined. -/
theorem pick_and' {K : Act → World → Prop} {c x y : Operand} (ho : o.op = .pick c x y) {b v : Bool} (hc : a.eval c = .bool b) (hx : a.eval x = (if b then .bool v else undef)) (hy : a.eval y = .bool false)
    (h : K (a.put o.dst (.bool (b && v))) w) : o.wp P a w K Q := by
  unfold Oper.wp execOp
  cases b
  · simp only [ho, hc, hy, hx]; exact h
  · simp only [ho, hc, hy, hx]; exact h
theorem pick_or' {K : Act → World → Prop} {c x y : Operand} (ho : o.op = .pick c x y) {b v : Bool} (hc : a.eval c = .bool b) (hx : a.eval x = .bool true) (hy : a.eval y = (if !b then .bool v else undef))
    (h : K (a.put o.dst (.bool (b || v))) w) : o.wp P a w K Q := by
  unfold Oper.wp execOp
  cases b
  · simp only [ho, hc, hy, hx]; exact h
  · simp only [ho, hc, hy, hx]; exact h
theorem pick_and (hgd : o.guard = none) {c x y : Operand} (ho : o.op = .pick c x y) {b v : Bool} (hc : a.eval c = .bool b) (hx : a.eval x = (if b then .bool v else undef)) (hy : a.eval y = .bool false)
    (h : wpList P ops Q rest (a.put o.dst (.bool (b && v))) w) : wpList P ops Q (o :: rest) a w :=
  wpList_plain hgd fun K hK => pick_and' ho hc hx hy (hK _ _ h)
theorem pick_or (hgd : o.guard = none) {c x y : Operand} (ho : o.op = .pick c x y) {b v : Bool} (hc : a.eval c = .bool b) (hx : a.eval x = .bool true) (hy : a.eval y = (if !b then .bool v else undef))
    (h : wpList P ops Q rest (a.put o.dst (.bool (b || v))) w) : wpList P ops Q (o :: rest) a w :=
  wpList_plain hgd fun K hK => pick_or' ho hc hx hy (hK _ _ h)

end

theorem ite_twice {α : Type} (G : Bool) (x y z : α) : (if G then (if G then x else y) else z) = if G then x else z := by cases G <;> rfl
theorem ite_and {α : Type} (G g : Bool) (x y z : α) : (if (G && g) then (if G then x else y) else z) = if (G && g) then x else z := by cases G <;> cases g <;> rfl
theorem ite_and' {α : Type} (G g : Bool) (x y z : α) : (if (G && g) then (if g then x else y) else z) = if (G && g) then x else z := by cases G <;> cases g <;> rfl
end

section
set_option linter.unusedVariables false
set_option linter.unusedSimpArgs false
open Go.RowKit

section
variable {P : Program} {ops : Array Oper} {Q : Exit → Act → World → Prop} {w : World} {rest : List Oper} {a : Act} {d0 d1 d2 d3 d4 x j1 j2 j3 f : Nat} {s c : Value} {b h : Bool} {t1 t2 t3 t4 tn : TypeId} {p1 p2 p3 p4 : String} {e1 e2 e3 e4 : Array Edge} {g4 : Option (Nat × Bool)} {at2 : Array TypeId}

theorem and_law (hb : a.eval (.tmp d0) = .bool b) (hx : a.eval (.tmp x) = s)
    (hc : ∀ w, Calls P f #[s, c] w fun e w' => e = .returned (.bool h) ∧ w = w')
    (hr : ∀ args : Array Value, (callFunc f args).run P w = .ok (.enter f args) w)
    (y1 : yielded ops a.tmps j1 = some b)
    (y2 : ∀ v1, yielded ops (a.put (some d1) v1).tmps j2 = some b)
    (y3 : ∀ v1 v2, yielded ops ((a.put (some d1) v1).put (some d2) v2).tmps j3 = some b)
    (y4 : ∀ v1 v2 v3, Region.wanted ⟨some d4, .pick (.tmp d0) (.tmp d3) (.const (.bool false)), t4, p4, e4, g4⟩ (yielded ops (((a.put (some d1) v1).put (some d2) v2).put (some d3) v3).tmps) = true)
    (r1 : ∀ v1, (a.put (some d1) v1).eval (.tmp d1) = v1)
    (r2 : ∀ v1 v2, ((a.put (some d1) v1).put (some d2) v2).eval (.tmp d2) = v2)
    (r3 : ∀ v1 v2 v3, (((a.put (some d1) v1).put (some d2) v2).put (some d3) v3).eval (.tmp d3) = v3)
    (r0 : ∀ v1 v2 v3, (((a.put (some d1) v1).put (some d2) v2).put (some d3) v3).eval (.tmp d0) = .bool b)
    (k : ∀ v1 v2 v3, wpList P ops Q rest ((((a.put (some d1) v1).put (some d2) v2).put (some d3) v3).put (some d4) (.bool (b && !h))) w) :
    wpList P ops Q (⟨some d1, .move (.tmp x), t1, p1, e1, some (j1, true)⟩ :: ⟨some d2, .call ⟨.value (.func f), #[.tmp d1, .const c], at2⟩, t2, p2, e2, some (j2, true)⟩ :: ⟨some d3, .unOp .not tn (.tmp d2), t3, p3, e3, some (j3, true)⟩ ::
      ⟨some d4, .pick (.tmp d0) (.tmp d3) (.const (.bool false)), t4, p4, e4, g4⟩ :: rest) a w := by
  cases b with
  | false =>
    refine wpList_skip (guard_t (j := j1) rfl y1) (wpList_skip (guard_t (j := j2) rfl (y2 _)) (wpList_skip (guard_t (j := j3) rfl (y3 _ _)) ?_))
    refine BigFrame.wpList_want (y4 _ _ _) fun K hK => ?_
    refine pick_and' (v := false) (b := false) rfl (r0 _ _ _) (r3 _ _ _) rfl ?_
    exact hK _ _ (k _ _ _)
  | true =>
    refine BigFrame.wpList_want (guard_t (j := j1) rfl y1) fun K1 hK1 => ?_
    refine BigFrame.wp_move (.tmp x) rfl (hK1 _ _ ?_)
    rw [hx]
    refine BigFrame.wpList_want (guard_t (j := j2) rfl (y2 _)) fun K2 hK2 => ?_
    have hcl : Oper.wp P (⟨some d2, .call ⟨.value (.func f), #[.tmp d1, .const c], at2⟩, t2, p2, e2, some (j2, true)⟩) (a.put (some d1) s) w K2 Q := by
      unfold Oper.wp
      rw [execOp_call_go]
      have he : (#[] ++ Array.map (a.put (some d1) s).eval #[.tmp d1, .const c] ++ #[] : Array Value) = #[s, c] := by
        simp only [List.map_toArray, List.map_cons, List.map_nil, r1]
        rfl
      rw [he, hr]
      refine (hc w).mono ?_
      rintro e w' ⟨rfl, rfl⟩
      refine hK2 _ _ ?_
      refine BigFrame.wpList_want (guard_t (j := j3) rfl (y3 _ _)) fun K3 hK3 => ?_
      have h3 : Oper.wp P (⟨some d3, .unOp .not tn (.tmp d2), t3, p3, e3, some (j3, true)⟩ : Oper) ((a.put (some d1) s).put (some d2) (.bool h)) w K3 Q := by
        unfold Oper.wp
        have hn : (execOp ((a.put (some d1) s).put (some d2) (.bool h)).eval (⟨some d3, .unOp .not tn (.tmp d2), t3, p3, e3, some (j3, true)⟩ : Oper)).run P w = .ok (.value (.bool (!h))) w := by
          unfold execOp
          simp only [r2]
          cases h <;> rfl
        rw [hn]
        refine hK3 _ _ ?_
        refine BigFrame.wpList_want (y4 _ _ _) fun K hK => ?_
        refine pick_and' (v := !h) (b := true) rfl (r0 _ _ _) (r3 _ _ _) rfl ?_
        exact hK _ _ (k _ _ _)
      exact h3
    exact hcl

theorem and_has (hb : a.eval (.tmp d0) = .bool b) (hx : a.eval (.tmp x) = s)
    (hc : ∀ w, Calls P f #[s, c] w fun e w' => e = .returned (.bool true) ∧ w = w')
    (hr : ∀ args : Array Value, (callFunc f args).run P w = .ok (.enter f args) w)
    (y1 : yielded ops a.tmps j1 = some b)
    (y2 : ∀ v1, yielded ops (a.put (some d1) v1).tmps j2 = some b)
    (y3 : ∀ v1 v2, yielded ops ((a.put (some d1) v1).put (some d2) v2).tmps j3 = some b)
    (y4 : ∀ v1 v2 v3, Region.wanted ⟨some d4, .pick (.tmp d0) (.tmp d3) (.const (.bool false)), t4, p4, e4, g4⟩ (yielded ops (((a.put (some d1) v1).put (some d2) v2).put (some d3) v3).tmps) = true)
    (r1 : ∀ v1, (a.put (some d1) v1).eval (.tmp d1) = v1)
    (r2 : ∀ v1 v2, ((a.put (some d1) v1).put (some d2) v2).eval (.tmp d2) = v2)
    (r3 : ∀ v1 v2 v3, (((a.put (some d1) v1).put (some d2) v2).put (some d3) v3).eval (.tmp d3) = v3)
    (r0 : ∀ v1 v2 v3, (((a.put (some d1) v1).put (some d2) v2).put (some d3) v3).eval (.tmp d0) = .bool b)
    (k : ∀ v1 v2 v3, wpList P ops Q rest ((((a.put (some d1) v1).put (some d2) v2).put (some d3) v3).put (some d4) (.bool false)) w) :
    wpList P ops Q (⟨some d1, .move (.tmp x), t1, p1, e1, some (j1, true)⟩ :: ⟨some d2, .call ⟨.value (.func f), #[.tmp d1, .const c], at2⟩, t2, p2, e2, some (j2, true)⟩ :: ⟨some d3, .unOp .not tn (.tmp d2), t3, p3, e3, some (j3, true)⟩ ::
      ⟨some d4, .pick (.tmp d0) (.tmp d3) (.const (.bool false)), t4, p4, e4, g4⟩ :: rest) a w :=
  and_law (h := true) hb hx hc hr y1 y2 y3 y4 r1 r2 r3 r0 (by intro v1 v2 v3; rw [Bool.not_true, Bool.and_false]; exact k v1 v2 v3)
end

section
variable {P : Program} {ops : Array Oper} {Q : Exit → Act → World → Prop} {w : World} {rest : List Oper} {a : Act} {d00 x0 d0 d1 d2 d3 d4 x j1 j2 j3 f : Nat} {s c : Value} {cz : Operand} {g00 : Option (Nat × Bool)} {e00 : Array Edge} {p00 : String} {ti ti2 tr t0 t1 t2 t3 t4 tn : TypeId} {p0 p1 p2 p3 p4 : String} {e0 e1 e2 e3 e4 : Array Edge} {g0 g4 : Option (Nat × Bool)} {at2 : Array TypeId}
/-- 'n != 0 && !f(s, c)', f says yes: run without parting. -/
theorem and_has3 (hc : ∀ w, Calls P f #[s, c] w fun e w' => e = .returned (.bool true) ∧ w = w')
    (h0 : Region.wanted ⟨some d00, .binOp .neq ti (.tmp x0) cz ti2, tr, p00, e00, g00⟩ (yielded ops a.tmps) = true) (h1 : ∃ b, (execOp a.eval ⟨some d00, .binOp .neq ti (.tmp x0) cz ti2, tr, p00, e00, g00⟩).run P w = .ok (.value (.bool b)) w)
    (h2 : ∀ v, Region.wanted ⟨some d0, .move (.tmp d00), t0, p0, e0, g0⟩ (yielded ops (a.put (some d00) v).tmps) = true)
    (h3 : ∀ v, (a.put (some d00) v).eval (.tmp d00) = v)
    (hb : ∀ v, ((a.put (some d00) v).put (some d0) v).eval (.tmp d0) = v) (hx : ∀ v, ((a.put (some d00) v).put (some d0) v).eval (.tmp x) = s)
    (hr : ∀ args : Array Value, (callFunc f args).run P w = .ok (.enter f args) w)
    (y1 : ∀ b, yielded ops ((a.put (some d00) (.bool b)).put (some d0) (.bool b)).tmps j1 = some b)
    (y2 : ∀ b v1, yielded ops (((a.put (some d00) (.bool b)).put (some d0) (.bool b)).put (some d1) v1).tmps j2 = some b)
    (y3 : ∀ b v1 v2, yielded ops ((((a.put (some d00) (.bool b)).put (some d0) (.bool b)).put (some d1) v1).put (some d2) v2).tmps j3 = some b)
    (y4 : ∀ b v1 v2 v3, Region.wanted ⟨some d4, .pick (.tmp d0) (.tmp d3) (.const (.bool false)), t4, p4, e4, g4⟩ (yielded ops (((((a.put (some d00) (.bool b)).put (some d0) (.bool b)).put (some d1) v1).put (some d2) v2).put (some d3) v3).tmps) = true)
    (r1 : ∀ v v1, (((a.put (some d00) v).put (some d0) v).put (some d1) v1).eval (.tmp d1) = v1)
    (r2 : ∀ v v1 v2, ((((a.put (some d00) v).put (some d0) v).put (some d1) v1).put (some d2) v2).eval (.tmp d2) = v2)
    (r3 : ∀ v v1 v2 v3, (((((a.put (some d00) v).put (some d0) v).put (some d1) v1).put (some d2) v2).put (some d3) v3).eval (.tmp d3) = v3)
    (r0 : ∀ v v1 v2 v3, (((((a.put (some d00) v).put (some d0) v).put (some d1) v1).put (some d2) v2).put (some d3) v3).eval (.tmp d0) = v)
    (k : ∀ v0 v v1 v2 v3, wpList P ops Q rest ((((((a.put (some d00) v0).put (some d0) v).put (some d1) v1).put (some d2) v2).put (some d3) v3).put (some d4) (.bool false)) w) :
    wpList P ops Q (⟨some d00, .binOp .neq ti (.tmp x0) cz ti2, tr, p00, e00, g00⟩ :: ⟨some d0, .move (.tmp d00), t0, p0, e0, g0⟩ :: ⟨some d1, .move (.tmp x), t1, p1, e1, some (j1, true)⟩ :: ⟨some d2, .call ⟨.value (.func f), #[.tmp d1, .const c], at2⟩, t2, p2, e2, some (j2, true)⟩ :: ⟨some d3, .unOp .not tn (.tmp d2), t3, p3, e3, some (j3, true)⟩ ::
      ⟨some d4, .pick (.tmp d0) (.tmp d3) (.const (.bool false)), t4, p4, e4, g4⟩ :: rest) a w := by
  obtain ⟨b, h1⟩ := h1
  refine BigFrame.wpList_want h0 fun K hK => ?_
  unfold Oper.wp
  rw [h1]
  refine hK _ _ ?_
  refine BigFrame.wpList_want (h2 _) fun K2 hK2 => ?_
  refine BigFrame.wp_move (.tmp d00) rfl (hK2 _ _ ?_)
  rw [h3]
  exact and_has (b := b) (hb _) (hx _) hc hr (y1 b) (y2 b) (y3 b) (y4 b) (r1 _) (r2 _) (r3 _) (r0 _) (fun v1 v2 v3 => k _ _ v1 v2 v3)
end

/-- a call that only answers. -/
theorem calls_pure {P : Program} {f : Nat} {args : Array Value} {w : World} {v : Value} {Q : Ending → World → Prop} (h : Calls P f args w fun e w' => e = .returned v ∧ w = w') (k : Q (.returned v) w) : Calls P f args w Q :=
  h.mono fun e w' he => by obtain ⟨rfl, rfl⟩ := he; exact k

/-- a guard that says yes is let go. -/
theorem guard_off {P : Program} {ops : Array Oper} {rest : List Oper} {o : Oper} {a : Act} {w : World} {Q : Exit → Act → World → Prop} (hw : Region.wanted o (yielded ops a.tmps) = true)
    (h : wpList P ops Q ({ o with guard := none } :: rest) a w) : wpList P ops Q (o :: rest) a w := by
  have h0 : Region.wanted { o with guard := none } (yielded ops a.tmps) = true := rfl
  unfold wpList at h ⊢
  rw [if_pos h0] at h
  rw [if_pos hw]
  exact h

/-- what was put, said as a 'move' of a constant: the walk then writes the frame out itself. -/
theorem put_of {P : Program} {ops : Array Oper} {Q : Exit → Act → World → Prop} {w : World} {rest : List Oper} {a : Act} {d : Nat} {v : Value} {t : TypeId} {p : String} {e : Array Edge}
    (h : wpList P ops Q (⟨some d, .move (.const v), t, p, e, none⟩ :: rest) a w) : wpList P ops Q rest (a.put (some d) v) w := by
  unfold wpList at h
  have h0 : Region.wanted (⟨some d, .move (.const v), t, p, e, none⟩ : Oper) (yielded ops a.tmps) = true := rfl
  rw [if_pos h0] at h
  rcases h with h | ⟨h, _⟩
  · exact h
  · exact absurd h.1 (Array.not_mem_empty _)

/-- does nothing, and fails (under 'with_reducible') but where a guarded 'move' and then a call stand. -/
theorem at_move_call {P : Program} {ops : Array Oper} {Q : Exit → Act → World → Prop} {w : World} {rest : List Oper} {a : Act} {d1 d2 : Option Tmp} {x : Operand} {c : Call} {t1 t2 : TypeId} {p1 p2 : String} {e1 e2 : Array Edge} {g1 g2 : Nat × Bool}
    (h : wpList P ops Q (⟨d1, .move x, t1, p1, e1, some g1⟩ :: ⟨d2, .call c, t2, p2, e2, some g2⟩ :: rest) a w) : wpList P ops Q (⟨d1, .move x, t1, p1, e1, some g1⟩ :: ⟨d2, .call c, t2, p2, e2, some g2⟩ :: rest) a w := h
/-- the same at a region that is laid as parts. -/
theorem at_parts {P : Program} {A B l : List Oper} {Q : Exit → Act → World → Prop} {w : World} {a : Act}
    (h : wpList P (List.toArray (List.append A B)) Q l a w) : wpList P (List.toArray (List.append A B)) Q l a w := h
/-- the same at a call. -/
theorem at_calls {P : Program} {f : Nat} {args : Array Value} {w : World} {Q : Ending → World → Prop} (h : Calls P f args w Q) : Calls P f args w Q := h

section
variable {P : Program} {ops : Array Oper} {Q : Exit → Act → World → Prop} {w : World} {rest : List Oper} {a : Act} {d0 d1 d2 d3 d4 x j1 j2 j3 f : Nat} {s c : Value} {b : Bool} {t1 t2 t3 t4 tn : TypeId} {p1 p2 p3 p4 : String} {e1 e2 e3 e4 : Array Edge} {g4 : Option (Nat × Bool)} {at2 : Array TypeId}
/-- 'and_has', what was put said as moves of constants. -/
theorem and_hasM (hb : a.eval (.tmp d0) = .bool b) (hx : a.eval (.tmp x) = s)
    (hc : ∀ w, Calls P f #[s, c] w fun e w' => e = .returned (.bool true) ∧ w = w')
    (hr : ∀ args : Array Value, (callFunc f args).run P w = .ok (.enter f args) w)
    (y1 : yielded ops a.tmps j1 = some b)
    (y2 : ∀ v1, yielded ops (a.put (some d1) v1).tmps j2 = some b)
    (y3 : ∀ v1 v2, yielded ops ((a.put (some d1) v1).put (some d2) v2).tmps j3 = some b)
    (y4 : ∀ v1 v2 v3, Region.wanted ⟨some d4, .pick (.tmp d0) (.tmp d3) (.const (.bool false)), t4, p4, e4, g4⟩ (yielded ops (((a.put (some d1) v1).put (some d2) v2).put (some d3) v3).tmps) = true)
    (r1 : ∀ v1, (a.put (some d1) v1).eval (.tmp d1) = v1)
    (r2 : ∀ v1 v2, ((a.put (some d1) v1).put (some d2) v2).eval (.tmp d2) = v2)
    (r3 : ∀ v1 v2 v3, (((a.put (some d1) v1).put (some d2) v2).put (some d3) v3).eval (.tmp d3) = v3)
    (r0 : ∀ v1 v2 v3, (((a.put (some d1) v1).put (some d2) v2).put (some d3) v3).eval (.tmp d0) = .bool b)
    (k : ∀ v1 v2 v3, wpList P ops Q (⟨some d1, .move (.const v1), t1, p1, e1, none⟩ :: ⟨some d2, .move (.const v2), t1, p1, e1, none⟩ :: ⟨some d3, .move (.const v3), t1, p1, e1, none⟩ :: ⟨some d4, .move (.const (.bool false)), t1, p1, e1, none⟩ :: rest) a w) :
    wpList P ops Q (⟨some d1, .move (.tmp x), t1, p1, e1, some (j1, true)⟩ :: ⟨some d2, .call ⟨.value (.func f), #[.tmp d1, .const c], at2⟩, t2, p2, e2, some (j2, true)⟩ :: ⟨some d3, .unOp .not tn (.tmp d2), t3, p3, e3, some (j3, true)⟩ ::
      ⟨some d4, .pick (.tmp d0) (.tmp d3) (.const (.bool false)), t4, p4, e4, g4⟩ :: rest) a w :=
  and_has hb hx hc hr y1 y2 y3 y4 r1 r2 r3 r0 (fun v1 v2 v3 => put_of (put_of (put_of (put_of (k v1 v2 v3)))))
end
end

end Go.Proofs.Ytfnibpkojhgflaa
