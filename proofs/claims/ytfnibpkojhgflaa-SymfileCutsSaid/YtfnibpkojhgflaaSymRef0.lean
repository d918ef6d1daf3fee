/- The reference's reader: what its box says; as a thing beside a call's own. -/
import Derived.Test.YtfnibpkojhgflaaSymRdr0
import Derived.Test.YtfnibpkojhgflaaCutRun
import Derived.Test.YtfnibpkojhgflaaFrTail
namespace Go.Proofs.Ytfnibpkojhgflaa
set_option linter.unusedVariables false
set_option linter.unusedSimpArgs false
open Go.RowKit

theorem cut_lh {P : Program} {w : World} {t e : TypeId} {b o len cap : Nat} {k k' : IntKind} {m m' : Int} (i j q : Nat) (hu : P.underlying t = some (.slice e)) (hs : (P.info? e).map (·.size) = some 1) (hm : m = (i : Int)) (hm' : m' = (j : Int)) (hij : i ≤ j) (hc : j ≤ cap) (hq : j - i = q) :
    (Instr.sliceAt t (.slice (some ⟨b, o, none⟩) len cap) (some (.int k m)) (some (.int k' m')) none).run P w = .ok (.slice (cutV (some ⟨b, o, none⟩) cap i) q (cap - i)) w := by
  have ht' : P.underlying t = some (.slice (P.elem t)) := by simp [Program.elem, hu]
  have he : P.elem t = e := by simp [Program.elem, hu]
  rw [run_sliceAt_slice _ _ _ _ _ _ ht', run_slice_lh w t _ _ _ ht' k k' m m' (by omega) (by omega) (by omega), he]
  cases hp : P.info? e with
  | none => simp [hp] at hs
  | some it =>
    simp only [hp, Option.map_some, Option.some.injEq] at hs
    subst hm hm' hq
    by_cases h0 : cap = i
    · simp [sizeOf, typeInfo, hp, hs, sliced, Addr.add, Sem.run_bind, Result.andThen, h0, cutV]
    · simp [sizeOf, typeInfo, hp, hs, sliced, Addr.add, Sem.run_bind, Result.andThen, h0, cutV]

theorem cut_lA {P : Program} {w : World} {t e : TypeId} {a : Option Addr} {len cap : Nat} {k : IntKind} {m : Int} (j : Nat) (hu : P.underlying t = some (.slice e)) (hs : (P.info? e).map (·.size) = some 1) (hm : m = (j : Int)) (ha : a = none ∨ ∃ b o, a = some ⟨b, o, none⟩) (hn : a = none → len = 0 ∧ cap = 0) (hj : j ≤ len) :
    (Instr.sliceAt t (.slice a len cap) (some (.int k m)) none none).run P w = .ok (.slice (cutV a cap j) (len - j) (cap - j)) w := by
  rcases ha with rfl | ⟨b, o, rfl⟩
  · obtain ⟨rfl, rfl⟩ := hn rfl
    obtain rfl : j = 0 := by omega
    subst hm
    exact cut_nil hu hs (.inr rfl) (.inl rfl)
  · exact cut_l j hu hs hm hj
/-- bytes that are read. -/
structure RBy where
  a : Option Addr
  c : Nat
  l : List Int
def rrC (a : Option Addr) (c : Nat) (l : List Int) (i : Nat) (bad : Bool) : Array Value := #[.slice a l.length c, .int .i64 i, .bool bad]
def rrR (D : RBy) (g : Nat) (s : St) : Res := ⟨fun b => b = g, fun w => ∃ i bad, At w g (rrC D.a D.c D.l i bad) 92 ∧ i ≤ D.l.length ∧ s = stOf bad (D.l.drop i),
  fun _ h ⟨i, bad, k, r⟩ => ⟨i, bad, (h g rfl).trans k, r⟩⟩
structure RRd (D : RBy) (w0 we : World) (g : Nat) (s : St) : Prop where
  low : w0.heap.size ≤ g
  lt : g < we.heap.size
  bel : Below w0.heap.size w0 we
  at' : (rrR D g s).holds we
  rd : RdI .u8 w0 D.a D.c D.l
  len : D.l.length ≤ 10000000
variable {D : RBy} {w0 we w w' : World} {g : Nat} {s s' : St} {L : List Res} {b0 : Base}
theorem RRd.mem (h : RRd D w0 we g s) : Mem ⟨we, (· = g)⟩ we [rrR D g s] := by
  refine ⟨Ke.refl _ _, fun r hr => ?_, List.pairwise_singleton _ _⟩
  obtain rfl := List.mem_singleton.1 hr
  exact ⟨h.at', fun b hb => ⟨.inr hb, by cases hb; exact h.lt⟩⟩
theorem Mem.rrOpen (M : Mem b0 w L) (q : Nat) (hi : L[q]? = some (rrR D g s)) : ∃ i bad, Mem b0 w (L.set q (bx g (rrC D.a D.c D.l i bad) 92)) ∧ i ≤ D.l.length ∧ s = stOf bad (D.l.drop i) := by
  obtain ⟨i, bad, h1, h2, h3⟩ : (rrR D g s).holds w := M.get q hi
  exact ⟨i, bad, M.upd q hi (Ke.refl _ _) h1 (fun b hb => ⟨.inl hb, M.lt q hi (by exact hb)⟩), h2, h3⟩
theorem Mem.rrClose (M : Mem b0 w L) (q : Nat) {i : Nat} {bad : Bool} (hi : L[q]? = some (bx g (rrC D.a D.c D.l i bad) 92)) (h : i ≤ D.l.length) (hs : s = stOf bad (D.l.drop i)) : Mem b0 w (L.set q (rrR D g s)) :=
  M.upd q hi (Ke.refl _ _) ⟨i, bad, M.get q hi, h, hs⟩ (fun b hb => ⟨.inl hb, M.lt q hi hb⟩)
/-- the reader as it is now. -/
theorem RRd.now (h : RRd D w0 we g s) (M : Mem ⟨we, (· = g)⟩ w L) (i : Nat) (hi : L[i]? = some (rrR D g s')) : RRd D w0 w g s' :=
  ⟨h.low, M.lt i hi rfl, bel_keg h.bel h.low M.ke, M.get i hi, h.rd, h.len⟩
theorem RRd.done (h : RRd D w0 we g s) (M : Mem ⟨we, (· = g)⟩ w L) (q : Nat) {i : Nat} {bad : Bool} (hi : L[q]? = some (bx g (rrC D.a D.c D.l i bad) 92)) (hl : i ≤ D.l.length) (hs : s' = stOf bad (D.l.drop i)) : RRd D w0 w g s' :=
  ⟨h.low, M.lt q hi rfl, bel_keg h.bel h.low M.ke, ⟨i, bad, M.get q hi, hl, hs⟩, h.rd, h.len⟩
theorem Mem.rrr (M : Mem b0 w L) (i : Nat) (hi : L[i]? = some (rrR D g s)) (hr : RRd D w0 w' g s') (k : Ke (· = g) w w') : Mem b0 w' (L.set i (rrR D g s')) :=
  M.upd i hi k hr.at' (fun b hb => ⟨.inl hb, by cases hb; exact hr.lt⟩)
theorem RRd.sb (h : RRd D w0 we g s) : SB s := by
  intro l e x hx
  obtain ⟨i, bad, _, _, h3⟩ := h.at'
  rw [e] at h3
  cases bad with
  | true => cases h3
  | false => obtain rfl := Option.some.inj h3; exact bd_u8 (h.rd.bd x (List.mem_of_mem_drop hx))
theorem rbyte_nat (h : RRd D w0 we g s) : ∃ (n : Nat) (s' : St), rByte s = ((n : Int), s') ∧ n < 256 := by
  obtain ⟨⟨h1, h2⟩, _⟩ := sb_byte h.sb
  exact ⟨(rByte s).1.toNat, (rByte s).2, by rw [Int.toNat_of_nonneg h1], by omega⟩
theorem rnum_nat (h : RRd D w0 we g s) (m : Int) (h0 : 0 ≤ m) : ∃ (n : Nat) (s' : St), rNum m s = ((n : Int), s') ∧ (n : Int) ≤ m := by
  obtain ⟨⟨h1, h2⟩, _⟩ := sb_num m h0 h.sb
  exact ⟨(rNum m s).1.toNat, (rNum m s).2, by rw [Int.toNat_of_nonneg h1], by omega⟩
theorem rNum_all (h : SB s) : rNum 4294967295 s = rWord s := by
  obtain ⟨⟨h1, h2⟩, _⟩ := sb_word h
  unfold rNum rCount
  exact if_neg (by omega)
theorem flatA_of {w : World} {a : Option Addr} {c : Nat} {l : List Int} (h : RdI .u8 w a c l) (h0 : 0 < l.length) : a = none ∨ ∃ b o, a = some ⟨b, o, none⟩ := by
  obtain ⟨b, o, h1, _⟩ := h.cells
  exact .inr ⟨b, o, (h1 h0).1⟩
theorem two_len {l : List Int} {s : St} (h : rSome 2 (some l) = ([83, 49], s)) : 0 < l.length := by
  cases l with
  | nil => cases h
  | cons x l => simp
theorem drop_st {l : List Int} {i n : Nat} (h : n ≤ l.length - i) : rSome n (stOf false (l.drop i)) = ((l.drop i).take n, some (l.drop (i + n))) := by
  rw [rSome_much n (by rw [List.length_drop]; exact h), List.drop_drop]
end Go.Proofs.Ytfnibpkojhgflaa
