/- 'append(v, x...)', v an own row among others that are known whole: within its room or not. Over whatever program. -/
import Derived.Test.YtfnibpkojhgflaaSepMore
import Derived.ArgAppend
import Derived.Test.YtfnibpkojhgflaaRd
namespace Go.Proofs.Ytfnibpkojhgflaa
set_option linter.unusedVariables false
set_option linter.unusedSimpArgs false
open Go.RowKit

theorem Sep.perm {w : World} {l l' : List Row} (h : Sep w l) (p : l.Perm l') : Sep w l' :=
  ⟨fun e he => h.row e (p.mem_iff.2 he), (p.pairwise_iff (fun h => Ne.symm h)).1 h.nd⟩
theorem Sep.pick1 {w : World} {a b : Row} {l : List Row} (h : Sep w (a :: b :: l)) : Sep w (b :: a :: l) := h.perm (List.perm_middle (l₁ := [a]))
theorem Sep.pick2 {w : World} {a b c : Row} {l : List Row} (h : Sep w (a :: b :: c :: l)) : Sep w (c :: a :: b :: l) := h.perm (List.perm_middle (l₁ := [a, b]))
theorem Sep.tail {w : World} {a : Row} {l : List Row} (h : Sep w (a :: l)) : Sep w l := h.drop1

theorem Ke.ofGrown {w w' : World} {row : Option Nat} (h : w.grownBy w' row) : Ke (fun k => row = some k) w w' :=
  ⟨h.os, h.tape, h.output, h.size, fun k hk hG => h.block k hk (fun e => hG e.symm)⟩

section
variable {P : Program} {ops : Array Oper} {rest : List Oper} {o : Oper} {a : Act} {w : World} {Q : Exit → Act → World → Prop}

theorem append_sep (hgd : o.guard = none) (s x : Operand) {t e : TypeId} {z : Value} {size bytes : Nat} (ht : ET P t e z size bytes) (ho : o.op = .call { callee := .builtin .append, args := #[s, x], argTypes := #[t, t] })
    {h n cap : Nat} {cs : Array Value} {R : List Row} (H : Sep w ((h, cs, e) :: R)) (hcs : cs.size = cap * size) (hn : n ≤ cap) (hcap : cap ≤ maxLen) {xs : List Value} (hxs : cs.toList.take (n * size) = xs)
    (hs : a.eval s = .slice (some ⟨h, 0, none⟩) n cap) {ad : Addr} {m c : Nat} {news : List Value} (hx : a.eval x = .slice (some ad) m c) (hnews : ∀ j u, news[j]? = some u → w.cell? (ad.add j) = some u)
    (hl : news.length = m * size) (h1 : ∀ u ∈ news, u.oneCell' = true) (hbytes : (n + m) * bytes ≤ 140737488355328) (h63 : n + m ≤ maxLen)
    (k : ∀ (h' cap' : Nat) (cs' : Array Value) (w' : World), Sep w' ((h', cs', e) :: R) → cs'.size = cap' * size → n + m ≤ cap' → cap' ≤ maxLen → cs'.toList.take ((n + m) * size) = xs ++ news → Ke (· = h) w w' → (h' = h ∨ w.heap.size ≤ h') →
      wpList P ops Q rest (a.put o.dst (.slice (some ⟨h', 0, none⟩) (n + m) cap')) w') : wpList P ops Q (o :: rest) a w := by
  obtain ⟨⟨i, h2, hi, hz, hsz, hb⟩, hzs, hpos⟩ := ht
  have hat := H.at 0 rfl
  have hle : n * size ≤ cs.toList.length := by rw [Array.length_toList, hcs]; exact Nat.mul_le_mul_right _ hn
  have hxl : xs.length = n * size := by rw [← hxs, List.length_take]; omega
  have hown : w.ownsRow h e size (.slice (some ⟨h, 0, none⟩) n cap) n xs := ⟨hxl, .inr ⟨h, cap, cs, rfl, Nat.le_refl _, hat, hn, hcap, hcs, hxs⟩⟩
  have step : ∀ (v' : Value) (w' : World), (Builtin.append_ #[t, t] o.type #[.slice (some ⟨h, 0, none⟩) n cap, .slice (some ad) m c]).run P w = .ok v' w' → wpList P ops Q rest (a.put o.dst v') w' → wpList P ops Q (o :: rest) a w := by
    intro v' w' hr hw
    refine wpList_plain hgd fun K hK => ?_
    unfold Oper.wp execOp
    simp only [ho, resolve, invoke, builtin, Sem.run_bind, Sem.run_pure, Result.andThen_ok, List.map_toArray, List.map_cons, List.map_nil, hs, hx, hr]
    exact hK _ _ hw
  by_cases room : n + m ≤ cap
  · obtain ⟨w', hr, r1, r2⟩ := run_append_fits (P := P) w h t o.type e i size h2 hi hsz h n cap xs hown ad m c news hl hnews h1 room
    refine step _ _ hr ?_
    obtain ⟨_, hh⟩ := r1
    rcases hh with ⟨hh, _⟩ | ⟨g, cap', cur, hv, _, hg, q1, q2, q3, q4⟩
    · cases hh
    · simp only [Value.slice.injEq, Option.some.injEq, Addr.mk.injEq] at hv
      obtain ⟨⟨rfl, _⟩, _, rfl⟩ := hv
      have hk : Ke (· = h) w w' := (Ke.ofGrown r2).mono (fun i _ e => (Option.some.inj e).symm)
      exact k h cap cur w' (H.upd 0 rfl hg hk) q3 q1 q2 q4 hk (.inl rfl)
  · obtain ⟨v', w', hr, r1, r2⟩ := run_append_arg_grows (P := P) w t o.type e i z size bytes h2 hi hz hsz hb hzs hpos ⟨h, 0, none⟩ n cap xs hxl (fun j u hj => by
      have h3 := hat.cell j
      rw [show (⟨h, 0, none⟩ : Addr).add j = ⟨h, j, none⟩ from by rw [Addr.add_lit, Nat.zero_add], h3]
      rw [← hxs, List.getElem?_take] at hj
      split at hj
      · simpa using hj
      · cases hj) ad m c news hl hnews (by omega) h63 hbytes
    refine step _ _ hr ?_
    obtain ⟨_, hh⟩ := r1
    rcases hh with ⟨_, hh⟩ | ⟨g, cap', cur, rfl, hge, hg, q1, q2, q3, q4⟩
    · omega
    · have hk : Ke Non w w' := (Ke.ofGrown r2).mono (fun i _ e => by cases e)
      refine k g cap' cur w' (Sep.cons (H.tail.ke hk (fun _ _ h => h)) hg (fun x hx hh => ?_)) q3 q1 q2 q4 (hk.mono (fun _ _ h => h.elim)) (.inr hge)
      have := (H.tail.row x hx).lt
      omega

/-- 'make([]T, n)'. -/
theorem make_sep (hgd : o.guard = none) (l c : Operand) {t e : TypeId} {z : Value} {size bytes : Nat} (ht : ET P t e z size bytes) (ho : o.op = .makeSlice t l c) {R : List Row} (H : Sep w R) (n : Nat) {m : Int} (hm : m = (n : Int))
    (hl : a.eval l = .int .i64 m) (hc : a.eval c = .int .i64 m) (b2 : bytes * n ≤ 281474976710656) (b3 : n ≤ maxLen)
    (k : ∀ w', Sep w' ((w.heap.size, madeCells z.cells (n * size), e) :: R) → Below w.heap.size w w' → w'.heap.size = w.heap.size + 1 →
      wpList P ops Q rest (a.put o.dst (.slice (some ⟨w.heap.size, 0, none⟩) n n)) w') : wpList P ops Q (o :: rest) a w := by
  obtain ⟨⟨i, h2, hi, hz, rfl, rfl⟩, hzs, hpos⟩ := ht
  have h63' : (n : Int) ≤ 9223372036854775807 := by
    have h := b3
    simp [maxLen] at h
    omega
  have hb' : (i.bytes : Int) * (n : Int) ≤ 281474976710656 := by
    have h : ((i.bytes * n : Nat) : Int) ≤ 281474976710656 := by omega
    rwa [Int.natCast_mul] at h
  subst hm
  have hr := run_make (P := P) w t e i z h2 hi hz .i64 .i64 n n (by omega) (Int.le_refl _) hb' h63'
  simp only [Int.toNat_natCast] at hr
  have hh := k _ (H.alloc (madeCells z.cells (n * i.size)) e) (bel1 w _) (by simp)
  refine wpList_plain hgd fun K hK => ?_
  unfold Oper.wp execOp
  simp only [ho, hl, hc, Sem.run_bind, hr, Result.andThen_ok]
  exact hK _ _ hh

end

end Go.Proofs.Ytfnibpkojhgflaa
