/- Several texts in one: SepApp, AppAt, AppF, RowLoop, SetMap. -/
import Derived.Test.YtfnibpkojhgflaaLibA
import Derived.ArgAppend
import Derived.Maps.AppendAt
import Derived.Lib.FrozenHead2
import Derived.Laws.OwnMore
import Derived.Test.YtfnibpkojhgflaaLibB
import Derived.Maps.Own
import Derived.Maps.OwnSet
import Derived.Maps.Views
namespace Go.Proofs.Ytfnibpkojhgflaa

section
set_option linter.unusedVariables false
set_option linter.unusedSimpArgs false
open Go.RowKit

theorem Sep.perm {w : World} {l l' : List Row} (h : Sep w l) (p : l.Perm l') : Sep w l' :=
  ⟨fun e he => h.row e (p.mem_iff.2 he), (p.pairwise_iff (fun h => Ne.symm h)).1 h.nd⟩
theorem Sep.pick1 {w : World} {a b : Row} {l : List Row} (h : Sep w (a :: b :: l)) : Sep w (b :: a :: l) := h.perm (List.perm_middle (l₁ := [a]))
theorem Sep.pick2 {w : World} {a b c : Row} {l : List Row} (h : Sep w (a :: b :: c :: l)) : Sep w (c :: a :: b :: l) := h.perm (List.perm_middle (l₁ := [a, b]))
theorem Sep.tail {w : World} {a : Row} {l : List Row} (h : Sep w (a :: l)) : Sep w l := h.drop1

theorem Ke.ofGrown {w w' : World} {row : Option Nat} (h : w.grownBy w' row) : Ke (fun k => row = some k) w w' :=
  ⟨h.os, h.tape, h.output, h.size, fun k hk hG => h.block k hk (fun e => hG e.symm)⟩

section
variable {P : Program} {ops : Array Oper} {rest : List Oper} {o : Oper} {a : Act} {w : World} {Q : Exit → Act → World → Prop}

theorem append_sep (hgd : o.guard = none) (s x : Operand) {t e : TypeId} {z : Value} {size bytes : Nat} (ht : ET P t e z size bytes) (ho : o.op = .call { callee := .builtin .append, args := #[s, x], argTypes := #[t, t] })
    {h n cap : Nat} {cs : Array Value} {R : List Row} (H : Sep w ((h, cs, e) :: R)) (hcs : cs.size = cap * size) (hn : n ≤ cap) (hcap : cap ≤ maxLen) {xs : List Value} (hxs : cs.toList.take (n * size) = xs)
    (hs : a.eval s = .slice (some ⟨h, 0, none⟩) n cap) {ad : Addr} {m c : Nat} {news : List Value} (hx : a.eval x = .slice (some ad) m c) (hnews : ∀ j u, news[j]? = some u → w.cell? (ad.add j) = some u)
    (hl : news.length = m * size) (h1 : ∀ u ∈ news, u.oneCell' = true) (hbytes : (n + m) * bytes ≤ 140737488355328) (h63 : n + m ≤ maxLen)
    (k : ∀ (h' cap' : Nat) (cs' : Array Value) (w' : World), Sep w' ((h', cs', e) :: R) → cs'.size = cap' * size → n + m ≤ cap' → cap' ≤ maxLen → cs'.toList.take ((n + m) * size) = xs ++ news → Ke (· = h) w w' → (h' = h ∨ w.heap.size ≤ h') →
      wpList P ops Q rest (a.put o.dst (.slice (some ⟨h', 0, none⟩) (n + m) cap')) w') : wpList P ops Q (o :: rest) a w := by
  obtain ⟨⟨i, h2, hi, hz, hsz, hb⟩, hzs, hpos⟩ := ht
  have hat := H.at 0 rfl
  have hle : n * size ≤ cs.toList.length := by rw [Array.length_toList, hcs]; exact Nat.mul_le_mul_right _ hn
  have hxl : xs.length = n * size := by rw [← hxs, List.length_take]; omega
  have hown : w.ownsRow h e size (.slice (some ⟨h, 0, none⟩) n cap) n xs := ⟨hxl, .inr ⟨h, cap, cs, rfl, Nat.le_refl _, hat, hn, hcap, hcs, hxs⟩⟩
  have step : ∀ (v' : Value) (w' : World), (Builtin.append_ #[t, t] o.type #[.slice (some ⟨h, 0, none⟩) n cap, .slice (some ad) m c]).run P w = .ok v' w' → wpList P ops Q rest (a.put o.dst v') w' → wpList P ops Q (o :: rest) a w := by
    intro v' w' hr hw
    refine wpList_plain hgd fun K hK => ?_
    unfold Oper.wp execOp
    simp only [ho, resolve, invoke, builtin, Sem.run_bind, Sem.run_pure, Result.andThen_ok, List.map_toArray, List.map_cons, List.map_nil, hs, hx, hr]
    exact hK _ _ hw
  by_cases room : n + m ≤ cap
  · obtain ⟨w', hr, r1, r2⟩ := run_append_fits (P := P) w h t o.type e i size h2 hi hsz h n cap xs hown ad m c news hl hnews h1 room
    refine step _ _ hr ?_
    obtain ⟨_, hh⟩ := r1
    rcases hh with ⟨hh, _⟩ | ⟨g, cap', cur, hv, _, hg, q1, q2, q3, q4⟩
    · cases hh
    · simp only [Value.slice.injEq, Option.some.injEq, Addr.mk.injEq] at hv
      obtain ⟨⟨rfl, _⟩, _, rfl⟩ := hv
      have hk : Ke (· = h) w w' := (Ke.ofGrown r2).mono (fun i _ e => (Option.some.inj e).symm)
      exact k h cap cur w' (H.upd 0 rfl hg hk) q3 q1 q2 q4 hk (.inl rfl)
  · obtain ⟨v', w', hr, r1, r2⟩ := run_append_arg_grows (P := P) w t o.type e i z size bytes h2 hi hz hsz hb hzs hpos ⟨h, 0, none⟩ n cap xs hxl (fun j u hj => by
      have h3 := hat.cell j
      rw [show (⟨h, 0, none⟩ : Addr).add j = ⟨h, j, none⟩ from by rw [Addr.add_lit, Nat.zero_add], h3]
      rw [← hxs, List.getElem?_take] at hj
      split at hj
      · simpa using hj
      · cases hj) ad m c news hl hnews (by omega) h63 hbytes
    refine step _ _ hr ?_
    obtain ⟨_, hh⟩ := r1
    rcases hh with ⟨_, hh⟩ | ⟨g, cap', cur, rfl, hge, hg, q1, q2, q3, q4⟩
    · omega
    · have hk : Ke Non w w' := (Ke.ofGrown r2).mono (fun i _ e => by cases e)
      refine k g cap' cur w' (Sep.cons (H.tail.ke hk (fun _ _ h => h)) hg (fun x hx hh => ?_)) q3 q1 q2 q4 (hk.mono (fun _ _ h => h.elim)) (.inr hge)
      have := (H.tail.row x hx).lt
      omega

/-- 'make([]T, n)'. -/
theorem make_sep (hgd : o.guard = none) (l c : Operand) {t e : TypeId} {z : Value} {size bytes : Nat} (ht : ET P t e z size bytes) (ho : o.op = .makeSlice t l c) {R : List Row} (H : Sep w R) (n : Nat) {m : Int} (hm : m = (n : Int))
    (hl : a.eval l = .int .i64 m) (hc : a.eval c = .int .i64 m) (b2 : bytes * n ≤ 281474976710656) (b3 : n ≤ maxLen)
    (k : ∀ w', Sep w' ((w.heap.size, madeCells z.cells (n * size), e) :: R) → Below w.heap.size w w' → w'.heap.size = w.heap.size + 1 →
      wpList P ops Q rest (a.put o.dst (.slice (some ⟨w.heap.size, 0, none⟩) n n)) w') : wpList P ops Q (o :: rest) a w := by
  obtain ⟨⟨i, h2, hi, hz, rfl, rfl⟩, hzs, hpos⟩ := ht
  have h63' : (n : Int) ≤ 9223372036854775807 := by
    have h := b3
    simp [maxLen] at h
    omega
  have hb' : (i.bytes : Int) * (n : Int) ≤ 281474976710656 := by
    have h : ((i.bytes * n : Nat) : Int) ≤ 281474976710656 := by omega
    rwa [Int.natCast_mul] at h
  subst hm
  have hr := run_make (P := P) w t e i z h2 hi hz .i64 .i64 n n (by omega) (Int.le_refl _) hb' h63'
  simp only [Int.toNat_natCast] at hr
  have hh := k _ (H.alloc (madeCells z.cells (n * i.size)) e) (bel1 w _) (by simp)
  refine wpList_plain hgd fun K hK => ?_
  unfold Oper.wp execOp
  simp only [ho, hl, hc, Sem.run_bind, hr, Result.andThen_ok]
  exact hK _ _ hh

end
end

section
open Go.RowKit

theorem append_at {P : Program} {w : World} {ops : Array Oper} {rest : List Oper} {o : Oper} {a : Act} {Q : Exit → Act → World → Prop} (hgd : o.guard = none)
    (s x : Operand) {t e : TypeId} {z : Value} {size bytes : Nat} (ht : ET P t e z size bytes) (ho : o.op = .call { callee := .builtin .append, args := #[s, x], argTypes := #[t, t] }) (base : Nat)
    {v : Value} {n : Nat} {xs : List Value} (hs : a.eval s = v) (hown : w.ownsRow base e size v n xs) {ad : Option Addr} {m c : Nat} {news : List Value}
    (hx : a.eval x = .slice ad m c) (hr : RdC w ad m c news) (hl : news.length = m * size) (h1 : ∀ u ∈ news, u.oneCell' = true)
    (hbytes : (n + m) * bytes ≤ 140737488355328) (h63 : n + m ≤ 140737488355328) (hbase : base ≤ w.heap.size)
    (h : ∀ (v' : Value) (w' : World), w'.ownsRow base e size v' (n + m) (xs ++ news) → w.grownBy w' v.ownBlock → (v'.ownBlock = v.ownBlock ∨ v'.ownBlock = some w.heap.size) → wpList P ops Q rest (a.put o.dst v') w') :
    wpList P ops Q (o :: rest) a w := by
  obtain ⟨⟨i, h2, hi, hz, hsz, hb⟩, hzs, hpos⟩ := ht
  cases ad with
  | none =>
    obtain ⟨rfl, rfl⟩ := hr.nil rfl
    have hnews : news = [] := List.length_eq_zero_iff.1 (by simpa using hl)
    subst hnews
    refine wpList_append_own_none hgd s x t ho base e i size h2 hi v n xs hs hown hx (h v w (by simpa using hown) ?_ (.inl rfl))
    exact World.grownBy.refl _ _
  | some ad =>
    refine wpList_append_own_at w hgd s x t ho base e i z size bytes h2 hi hz hsz hb hzs hpos v n xs hs hown ad m c news hx hl ?_ h1 (by unfold maxLen; omega) hbytes hbase (fun v' w' g1 g2 _ g3 => h v' w' g1 g2 g3)
    intro j u hj
    obtain ⟨b, o, h5, h6⟩ := hr.at'
    have hlen : j < news.length := by
      rcases Nat.lt_or_ge j news.length with h | h
      · exact h
      · rw [List.getElem?_eq_none h] at hj; cases hj
    obtain ⟨h7, h8⟩ := h5 (by omega)
    simp only [Option.some.injEq] at h7
    subst h7
    have h9 := h6 j u hj
    by_cases h0 : j = 0
    · subst h0; simpa [Addr.add] using h9
    · simpa [Addr.add, h0] using h9
end

section
open Go.RowKit

theorem ownF_none {P : Program} {w : World} (base : Nat) (t ty e : TypeId) (i : TypeInfo) (size : Nat) (ht : P.underlying t = some (.slice e)) (hi : P.info? e = some i) (v : Value) (n : Nat) (xs : List Value) (hown : w.ownsRowF base e size v n xs) :
    (Builtin.append_ #[t, t] ty #[v, .slice none 0 0]).run P w = .ok v w := by
  rcases hown.2 with ⟨rfl, rfl⟩ | ⟨g, cap, cur, fz, rfl, _, hg, hf, hn, hm, hc, htk⟩
  · exact run_append_owned_none (P := P) (w := w) base t ty e i size ht hi _ 0 xs ⟨hown.1, .inl ⟨rfl, rfl⟩⟩
  · simp [Builtin.append_, run_underlying ht, sizeOf, typeInfo, hi, Builtin.lenOf, Builtin.firstCells, hn, storeCells]

theorem append_atF {P : Program} {w : World} {ops : Array Oper} {rest : List Oper} {o : Oper} {a : Act} {Q : Exit → Act → World → Prop} (hgd : o.guard = none)
    (s x : Operand) {t e : TypeId} {z : Value} {size bytes : Nat} (ht : ET P t e z size bytes) (ho : o.op = .call { callee := .builtin .append, args := #[s, x], argTypes := #[t, t] }) (base : Nat)
    {v : Value} {n : Nat} {xs : List Value} (hs : a.eval s = v) (hown : w.ownsRowF base e size v n xs) {ad : Option Addr} {m c : Nat} {news : List Value}
    (hx : a.eval x = .slice ad m c) (hr : RdC w ad m c news) (hl : news.length = m * size) (h1 : ∀ u ∈ news, u.oneCell' = true)
    (hbytes : (n + m) * bytes ≤ 140737488355328) (h63 : n + m ≤ 140737488355328) (hbase : base ≤ w.heap.size)
    (h : ∀ (v' : Value) (w' : World), w'.ownsRowF base e size v' (n + m) (xs ++ news) → w.grownBy w' v.ownBlock → wpList P ops Q rest (a.put o.dst v') w') :
    wpList P ops Q (o :: rest) a w := by
  obtain ⟨⟨i, h2, hi, hz, hsz, hb⟩, hzs, hpos⟩ := ht
  cases ad with
  | none =>
    obtain ⟨rfl, rfl⟩ := hr.nil rfl
    have hnews : news = [] := List.length_eq_zero_iff.1 (by simpa using hl)
    subst hnews
    have hrun := ownF_none (P := P) (w := w) base t o.type e i size h2 hi v n xs hown
    have hh := h v w (by simpa using hown) (World.grownBy.refl _ _)
    refine wpList_plain hgd fun K hK => ?_
    unfold Oper.wp
    simp [execOp, ho, resolve, invoke, builtin, hs, hx, hrun, Result.andThen]
    exact hK _ _ hh
  | some ad =>
    refine wpList_append_ownF _ hgd s x t ho base e i z size bytes h2 hi hz hsz hb hzs hpos v n xs hs hown ad m c news hx hl ?_ h1 (by unfold maxLen; omega) hbytes hbase (fun v' w' g1 g2 _ => h v' w' g1 g2)
    intro j u hj
    obtain ⟨b, o, h5, h6⟩ := hr.at'
    have hlen : j < news.length := by
      rcases Nat.lt_or_ge j news.length with h | h
      · exact h
      · rw [List.getElem?_eq_none h] at hj; cases hj
    obtain ⟨h7, h8⟩ := h5 (by omega)
    simp only [Option.some.injEq] at h7
    subst h7
    have h9 := h6 j u hj
    by_cases h0 : j = 0
    · subst h0; simpa [Addr.add] using h9
    · simpa [Addr.add, h0] using h9
end

section
set_option linter.unusedVariables false
set_option linter.unusedSimpArgs false
open Go.RowKit

theorem ownsRow_ke {G : Nat → Prop} {w w' : World} {base size n : Nat} {e : TypeId} {v : Value} {xs : List Value} (h : w.ownsRow base e size v n xs) (k : Ke G w w') (hG : ∀ i, v.ownBlock = some i → ¬ G i) : w'.ownsRow base e size v n xs := by
  obtain ⟨h1, h2⟩ := h
  refine ⟨h1, ?_⟩
  rcases h2 with h2 | ⟨g, cap, cur, rfl, hb, hh, hr⟩
  · exact .inl h2
  · exact .inr ⟨g, cap, cur, rfl, hb, (k.block g (Array.getElem?_eq_some_iff.1 hh).1 (hG g rfl)).trans hh, hr⟩

theorem rdc_at {w : World} {h : Nat} {cs : Array Value} {t : TypeId} (ha : At w h cs t) : RdC w (some ⟨h, 0, none⟩) 1 1 cs.toList :=
  ⟨⟨h, 0, fun _ => ⟨rfl, ha.lt⟩, fun j u hj => by rw [Nat.zero_add]; exact (ha.cell j).trans (by simpa using hj)⟩, fun h => (by cases h), Nat.le_refl _, by unfold maxLen; decide⟩

theorem bel_ke {G : Nat → Prop} {B : Nat} {w w' : World} (h : Ke G w w') (hG : ∀ i, G i → B ≤ i) (hB : B ≤ w.heap.size) : Below B w w' :=
  ⟨h.os, h.tape, h.output, h.size, fun k hk => h.block k (Nat.lt_of_lt_of_le hk hB) (fun hh => Nat.lt_irrefl _ (Nat.lt_of_lt_of_le hk (hG k hh)))⟩

/-- the last assignment ahead of a return. -/
theorem assign_end {P : Program} {ops : Array Oper} {rest : List Oper} {o : Oper} {a : Act} {w : World} {Q : Exit → Act → World → Prop} (hgd : o.guard = none) (x : Operand) (ho : o.op = .assign x) {v : Value} (hx : a.eval x = v)
    (h : wpList P ops Q rest (a.put o.dst v) w) : wpList P ops Q (o :: rest) a w := by
  refine wpList_plain hgd fun K hK => ?_
  unfold Oper.wp execOp
  simp only [ho, hx, Sem.run_pure]
  exact hK _ _ h

variable {α : Type}
/-- from the world wB on, blocks of G may have been written; the row v is newer than wB, and holds l. -/
structure RowLoop (D : Dat α) (e : TypeId) (wB wr : World) (G : Nat → Prop) (v : Value) (l : List α) : Prop where
  own : wr.ownsRow wB.heap.size e D.size v l.length (l.flatMap D.cells)
  ke : Ke G wB wr
  ok : ∀ wz, Ke (fun i => G i ∨ v.ownBlock = some i) wr wz → ∀ x ∈ l, D.ok wz x
variable {D : Dat α} {e : TypeId} {wB wr wz : World} {G : Nat → Prop} {v v' : Value} {l : List α} {x : α}

theorem RowLoop.start (D : Dat α) (e : TypeId) (wB : World) (G : Nat → Prop) : RowLoop D e wB wB G (.slice none 0 0) [] := ⟨World.ownsRow_nil _ _ _ _, Ke.refl _ _, fun _ _ x hx => by cases hx⟩
theorem RowLoop.low (h : RowLoop D e wB wr G v l) : ∀ i, v.ownBlock = some i → wB.heap.size ≤ i := fun i hi => (h.own.lt i hi).1
theorem RowLoop.on (h : RowLoop D e wB wr G v l) (hG : ∀ i, G i → i < wB.heap.size) (k : Ke G wr wz) : RowLoop D e wB wz G v l :=
  ⟨ownsRow_ke h.own k (fun i hi hg => absurd (hG i hg) (Nat.not_lt.2 (h.low i hi))), h.ke.trans k, fun wy ky x hx => h.ok wy ((k.mono fun i _ hi => .inl hi).trans ky) x hx⟩
theorem RowLoop.bel (h : RowLoop D e wB wr G v l) (hG : ∀ i, G i → i < wB.heap.size) (k : Below wr.heap.size wr wz) : RowLoop D e wB wz G v l := h.on hG (Ke.below _ k)
theorem RowLoop.app (h : RowLoop D e wB wr G v l) (hG : ∀ i, G i → i < wB.heap.size) (ho : wz.ownsRow wB.heap.size e D.size v' (l.length + 1) (l.flatMap D.cells ++ D.cells x)) (hg : wr.grownBy wz v.ownBlock)
    (hv : v'.ownBlock = v.ownBlock ∨ v'.ownBlock = some wr.heap.size) (hx : ∀ wy, Ke (fun i => G i ∨ v.ownBlock = some i) wr wy → D.ok wy x) : RowLoop D e wB wz G v' (l ++ [x]) ∧ Ke (fun i => wB.heap.size ≤ i) wr wz := by
  have k1 : Ke (fun i => v.ownBlock = some i) wr wz := Ke.ofGrown hg
  have kk : ∀ wy, Ke (fun i => G i ∨ v'.ownBlock = some i) wz wy → Ke (fun i => G i ∨ v.ownBlock = some i) wr wy := fun wy ky =>
    (k1.mono fun i _ hi => .inr hi).trans' ky (fun i hi hh => by
      rcases hh with hh | hh
      · exact .inl hh
      · rcases hv with hv | hv
        · exact .inr (hv ▸ hh)
        · rw [hv] at hh
          have := Option.some.inj hh
          omega)
  refine ⟨⟨by rw [List.length_append, List.flatMap_append, List.flatMap_cons, List.flatMap_nil, List.append_nil]; exact ho, ?_, fun wy ky y hy => ?_⟩, k1.mono fun i _ hi => h.low i hi⟩
  · refine h.ke.trans' k1 (fun i hi hh => ?_)
    exact absurd (h.low i hh) (Nat.not_le.2 hi)
  · rcases List.mem_append.1 hy with hy | hy
    · exact h.ok wy (kk wy ky) y hy
    · obtain rfl := List.mem_singleton.1 hy
      exact hx wy (kk wy ky)
theorem RowLoop.fin (h : RowLoop D e wB wr G v l) (hG : ∀ i, G i → i < wB.heap.size) : ∃ a c, v = .slice a l.length c ∧ ∀ wz, Ke G wr wz → Rows D wz ⟨a, c, l⟩ := by
  obtain ⟨a, c, hv, hr⟩ := RdC.own h.own
  refine ⟨a, c, hv, fun wz k => ?_⟩
  obtain ⟨a', c', hv', hr'⟩ := RdC.own (h.on hG k).own
  rw [hv'] at hv
  simp only [Value.slice.injEq, true_and] at hv
  obtain ⟨rfl, rfl⟩ := hv
  exact ⟨hr', (h.on hG k).ok wz (Ke.refl _ _)⟩
end

section
set_option linter.unusedVariables false
set_option linter.unusedSimpArgs false
open Go.RowKit
open Go.Maps (Keyed)

/-- how such an element reads. -/
def isElem : Value → Option (DataW Unit × List MemPlace)
  | .agg cs => match cs.toList with
    | [.bool b] => some (.agg [.lit (.bool b)], [])
    | _ => none
  | _ => none
theorem isElem_mk (b : Bool) : isElem (.agg #[.bool b]) = some (.agg [.lit (.bool b)], []) := rfl
theorem isElem_inv {v : Value} {z : DataW Unit × List MemPlace} (h : isElem v = some z) : ∃ b, v = .agg #[.bool b] ∧ z = (.agg [.lit (.bool b)], []) := by
  unfold isElem at h
  split at h
  · rename_i cs
    split at h
    · rename_i b hb
      refine ⟨b, ?_, (Option.some.inj h).symm⟩
      rw [show cs = #[Value.bool b] from Array.toList_inj.1 hb]
    · cases h
  · cases h

noncomputable def boolOf (p : Prop) : Bool := @decide p (Classical.propDecidable p)
theorem boolOf_iff {p : Prop} : boolOf p = true ↔ p := by unfold boolOf; exact @decide_eq_true_iff p (Classical.propDecidable p)
theorem boolOf_yes {p : Prop} (h : p) : boolOf p = true := boolOf_iff.2 h
theorem boolOf_no {p : Prop} (h : ¬ p) : boolOf p = false := by rw [Bool.eq_false_iff]; exact fun q => h (boolOf_iff.1 q)
theorem boolOf_congr {p q : Prop} (h : p ↔ q) : boolOf p = boolOf q := by rw [show p = q from propext h]
theorem boolOf_bool (b : Bool) : boolOf (b = true) = b := by cases b; exact boolOf_no (by decide); exact boolOf_yes rfl

/-- block b is a map of at most n keys; the keys of Q are told 'is'. -/
def SetMap (w : World) (P : Program) (k : TypeId) (b n : Nat) (Q : Lit → Prop) : Prop :=
  ∃ D : DataW Unit, w.ownsMap P k isElem b n D ∧ ∀ kl, D.atKey kl (.agg [.lit (.bool false)]) = .agg [.lit (.bool (boolOf (Q kl)))]

variable {P : Program} {w w' : World} {k t e : TypeId} {b n : Nat} {Q Q' : Lit → Prop}
theorem SetMap.made (w : World) (P : Program) (k : TypeId) : SetMap (w.alloc (.map #[] 0)) P k w.heap.size 0 (fun _ => False) :=
  ⟨.map [], World.ownsMap_made w P k isElem, fun kl => by rw [boolOf_no (fun h => h)]; rfl⟩
theorem SetMap.lt (h : SetMap w P k b n Q) : b < w.heap.size := by obtain ⟨D, h1, _⟩ := h; exact h1.lt
theorem SetMap.ke {G : Nat → Prop} (h : SetMap w P k b n Q) (kk : Ke G w w') (hG : ¬ G b) : SetMap w' P k b n Q := by
  obtain ⟨D, ⟨es, clock, hb, F, hs, hD⟩, h2⟩ := h
  exact ⟨D, ⟨es, clock, (kk.block b (Array.getElem?_eq_some_iff.1 hb).1 hG).trans hb, F, hs, hD⟩, h2⟩
theorem SetMap.bel (h : SetMap w P k b n Q) (kk : Below w.heap.size w w') : SetMap w' P k b n Q := h.ke (Ke.below (fun _ => False) kk) (fun h => h)
theorem SetMap.iff (h : SetMap w P k b n Q) (hq : ∀ z, Q z ↔ Q' z) : SetMap w P k b n Q' := by rwa [← show Q = Q' from funext fun z => propext (hq z)]
theorem SetMap.look (h : SetMap w P k b n Q) (K : Keyed P k) (ht : P.underlying t = some (.map k e)) (hz : (zeroValue e).run P w = .ok (.agg #[.bool false]) w) {key : Value} {kl : Lit} (hkey : keyOf P k key = some kl) :
    (Instr.lookup t (.map (some b)) key false).run P w = .ok (.agg #[.bool (boolOf (Q kl))]) w := by
  obtain ⟨D, h1, h2⟩ := h
  obtain ⟨v, ps, hrun, hv⟩ := h1.lookup K ht hz (isElem_mk false) hkey
  obtain ⟨x, rfl, hx⟩ := isElem_inv hv
  rw [h2 kl] at hx
  simp only [Prod.mk.injEq, DataW.agg.injEq, List.cons.injEq, DataW.lit.injEq, Lit.bool.injEq, and_true] at hx
  rw [hrun, ← hx.1]
theorem SetMap.put (h : SetMap w P k b n Q) (K : Keyed P k) (ht : P.underlying t = some (.map k e)) (hn : n < maxLen) {key : Value} {kl : Lit} (hkey : keyOf P k key = some kl) (v : Bool) (hs : Q' kl ↔ v = true) (ho : ∀ z, z ≠ kl → (Q' z ↔ Q z)) :
    ∃ w', (Instr.mapUpdate t (.map (some b)) key (.agg #[.bool v])).run P w = .ok () w' ∧ SetMap w' P k b (n + 1) Q' ∧ Ke (· = b) w w' := by
  obtain ⟨D, h1, h2⟩ := h
  have hM := h1.isMap
  obtain ⟨w', hrun, g1, g2⟩ := h1.update K ht hn hkey (isElem_mk v)
  refine ⟨w', hrun, ⟨_, g1, fun z => ?_⟩, ⟨g2.os, g2.tape, g2.output, g2.size, fun i hi hG => g2.block i hi (fun hh => hG (Option.some.inj hh))⟩⟩
  by_cases hz : z = kl
  · subst hz
    rw [Maps.atKey_put_same hM (K.key hkey), boolOf_congr hs, boolOf_bool]
  · rw [Maps.atKey_put_other hz, h2 z, boolOf_congr (ho z hz)]

/-- 'm[k] = struct{ is bool }{v}' at the operation. -/
theorem wpList_set {ops : Array Oper} {rest : List Oper} {o : Oper} {a : Act} {R : Exit → Act → World → Prop} (hg : o.guard = none) (m x v : Operand) (t : TypeId) (hop : o.op = Op.mapUpdate t m x v) (h : SetMap w P k b n Q) (K : Keyed P k) (ht : P.underlying t = some (.map k e)) (hn : n < maxLen)
    {key : Value} {kl : Lit} (hm : a.eval m = .map (some b)) (hx : a.eval x = key) (hkey : keyOf P k key = some kl) {bv : Bool} (hv : a.eval v = .agg #[.bool bv]) (Q' : Lit → Prop) (hs : Q' kl ↔ bv = true) (ho : ∀ z, z ≠ kl → (Q' z ↔ Q z))
    (hK : ∀ w', SetMap w' P k b (n + 1) Q' → Ke (· = b) w w' → wpList P ops R rest (a.put o.dst undef) w') : wpList P ops R (o :: rest) a w := by
  refine wpList_plain hg fun K' hK' => ?_
  obtain ⟨w', hrun, r1, r2⟩ := h.put K ht hn hkey bv hs ho
  unfold Oper.wp
  simp [execOp, hop, hm, hx, hv, hrun, Result.andThen]
  exact hK' _ _ (hK w' r1 r2)
end

end Go.Proofs.Ytfnibpkojhgflaa
