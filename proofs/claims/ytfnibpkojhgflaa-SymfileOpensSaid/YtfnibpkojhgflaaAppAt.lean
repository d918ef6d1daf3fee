/- 'append(v, x...)', v the call's own, x whatever: and where the result lies. Over whatever program. -/
import Derived.Test.YtfnibpkojhgflaaRd
import Derived.Maps.AppendAt
namespace Go.Proofs.Ytfnibpkojhgflaa
open Go.RowKit

theorem append_at {P : Program} {w : World} {ops : Array Oper} {rest : List Oper} {o : Oper} {a : Act} {Q : Exit → Act → World → Prop} (hgd : o.guard = none)
    (s x : Operand) {t e : TypeId} {z : Value} {size bytes : Nat} (ht : ET P t e z size bytes) (ho : o.op = .call { callee := .builtin .append, args := #[s, x], argTypes := #[t, t] }) (base : Nat)
    {v : Value} {n : Nat} {xs : List Value} (hs : a.eval s = v) (hown : w.ownsRow base e size v n xs) {ad : Option Addr} {m c : Nat} {news : List Value}
    (hx : a.eval x = .slice ad m c) (hr : RdC w ad m c news) (hl : news.length = m * size) (h1 : ∀ u ∈ news, u.oneCell' = true)
    (hbytes : (n + m) * bytes ≤ 140737488355328) (h63 : n + m ≤ 140737488355328) (hbase : base ≤ w.heap.size)
    (h : ∀ (v' : Value) (w' : World), w'.ownsRow base e size v' (n + m) (xs ++ news) → w.grownBy w' v.ownBlock → (v'.ownBlock = v.ownBlock ∨ v'.ownBlock = some w.heap.size) → wpList P ops Q rest (a.put o.dst v') w') :
    wpList P ops Q (o :: rest) a w := by
  obtain ⟨⟨i, h2, hi, hz, hsz, hb⟩, hzs, hpos⟩ := ht
  cases ad with
  | none =>
    obtain ⟨rfl, rfl⟩ := hr.nil rfl
    have hnews : news = [] := List.length_eq_zero_iff.1 (by simpa using hl)
    subst hnews
    refine wpList_append_own_none hgd s x t ho base e i size h2 hi v n xs hs hown hx (h v w (by simpa using hown) ?_ (.inl rfl))
    exact World.grownBy.refl _ _
  | some ad =>
    refine wpList_append_own_at w hgd s x t ho base e i z size bytes h2 hi hz hsz hb hzs hpos v n xs hs hown ad m c news hx hl ?_ h1 (by unfold maxLen; omega) hbytes hbase (fun v' w' g1 g2 _ g3 => h v' w' g1 g2 g3)
    intro j u hj
    obtain ⟨b, o, h5, h6⟩ := hr.at'
    have hlen : j < news.length := by
      rcases Nat.lt_or_ge j news.length with h | h
      · exact h
      · rw [List.getElem?_eq_none h] at hj; cases hj
    obtain ⟨h7, h8⟩ := h5 (by omega)
    simp only [Option.some.injEq] at h7
    subst h7
    have h9 := h6 j u hj
    by_cases h0 : j = 0
    · subst h0; simpa [Addr.add] using h9
    · simpa [Addr.add, h0] using h9

end Go.Proofs.Ytfnibpkojhgflaa
