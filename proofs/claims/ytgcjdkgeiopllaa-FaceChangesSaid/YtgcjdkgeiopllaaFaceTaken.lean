/- Pairs that are taken; the pair of faces in memory; what 'means' answers. -/
import Derived.Test.YtgcjdkgeiopllaaFaceSim
import Derived.Test.YtgcjdkgeiopllaaFaceTwo
import Derived.Test.YtgcjdkgeiopllaaFaceEqF
namespace Go.Proofs.Ytgcjdkgeiopllaa
set_option linter.unusedVariables false
set_option linter.unusedSimpArgs false
open Go.RowKit

structure Tk (a b : FD) (T : List (Nat × Nat)) : Prop where
  nd : T.Nodup
  rg : ∀ p ∈ T, p.1 < a.types.length ∧ p.2 < b.types.length
def inT (T : List (Nat × Nat)) : Nat → Nat → Prop := fun i j => (i, j) ∈ T
theorem nats_le : ∀ (n : Nat) (l : List Nat), l.Nodup → (∀ x ∈ l, x < n) → l.length ≤ n
  | 0, l, _, h => by
    cases l with
    | nil => exact Nat.le_refl _
    | cons x r => exact absurd (h x (List.mem_cons_self ..)) (Nat.not_lt_zero _)
  | n + 1, l, hn, h => by
    have h1 := nats_le n (l.erase n) (hn.erase n) (fun x hx => by
      have h2 := h x (List.mem_of_mem_erase hx)
      have h3 : x ≠ n := fun e => by rw [e] at hx; exact (List.Nodup.not_mem_erase hn) hx
      omega)
    by_cases hm : n ∈ l
    · rw [List.length_erase_of_mem hm] at h1; omega
    · rw [List.erase_of_not_mem hm] at h1; omega
theorem pairs_le {a b : FD} {T : List (Nat × Nat)} (h : Tk a b T) : T.length ≤ a.types.length * b.types.length := by
  have := nats_le (a.types.length * b.types.length) (T.map (fun p => p.1 * b.types.length + p.2)) (by
    refine List.pairwise_map.2 (h.nd.imp_of_mem ?_)
    intro p q hp hq hne he
    have h1 := (h.rg p hp).2
    have h2 := (h.rg q hq).2
    have e1 : p.1 = q.1 := by
      have this : (p.1 * b.types.length + p.2) / b.types.length = (q.1 * b.types.length + q.2) / b.types.length := congrArg (· / b.types.length) he
      rwa [Nat.add_comm, Nat.add_mul_div_right _ _ (by omega), Nat.div_eq_of_lt h1, Nat.add_comm (q.1 * _), Nat.add_mul_div_right _ _ (by omega), Nat.div_eq_of_lt h2, Nat.zero_add, Nat.zero_add] at this
    have e2 : p.2 = q.2 := by
      have he : p.1 * b.types.length + p.2 = q.1 * b.types.length + q.2 := he
      rw [e1] at he; omega
    exact hne (Prod.ext e1 e2)) (fun x hx => by
      obtain ⟨p, hp, rfl⟩ := List.mem_map.1 hx
      obtain ⟨h1, h2⟩ := h.rg p hp
      have : (p.1 + 1) * b.types.length ≤ a.types.length * b.types.length := Nat.mul_le_mul_right _ h1
      rw [Nat.add_mul] at this
      omega)
  rwa [List.length_map] at this
structure Grew (a b : FD) (T T' : List (Nat × Nat)) : Prop where
  sub : ∀ p ∈ T, p ∈ T'
  le : T.length ≤ T'.length
  tk : Tk a b T'
theorem Grew.trans {a b : FD} {T T' T'' : List (Nat × Nat)} (h : Grew a b T T') (k : Grew a b T' T'') : Grew a b T T'' := ⟨fun p hp => k.sub p (h.sub p hp), Nat.le_trans h.le k.le, k.tk⟩
theorem Grew.refl {a b : FD} {T : List (Nat × Nat)} (h : Tk a b T) : Grew a b T T := ⟨fun _ h => h, Nat.le_refl _, h⟩
theorem Tk.cons {a b : FD} {T : List (Nat × Nat)} (h : Tk a b T) {i j : Nat} (hi : i < a.types.length) (hj : j < b.types.length) (hn : (i, j) ∉ T) : Tk a b ((i, j) :: T) :=
  ⟨List.nodup_cons.2 ⟨hn, h.nd⟩, fun p hp => by rcases List.mem_cons.1 hp with rfl | hp; exact ⟨hi, hj⟩; exact h.rg p hp⟩
theorem Grew.cons {a b : FD} {T : List (Nat × Nat)} {i j : Nat} (h : Tk a b ((i, j) :: T)) : Grew a b T ((i, j) :: T) := ⟨fun p hp => List.mem_cons_of_mem _ hp, by simp, h⟩
/-- what stands in T' is old or holds by T'. -/
def Holds (a b : FD) (T T' : List (Nat × Nat)) : Prop := ∀ p ∈ T', p ∈ T ∨ localP a b (inT T') p.1 p.2
def MeansOut (a b : FD) (T : List (Nat × Nat)) (r s : Rf) (ok : Bool) (T' : List (Nat × Nat)) : Prop :=
  Grew a b T T' ∧ (ok = true → onceP a b (inT T') r s ∧ Holds a b T T') ∧ (ok = false → ¬ onceP a b (Alike a b) r s)
variable {a b : FD} {T T' T'' : List (Nat × Nat)} {r s : Rf}
theorem inT_mono (h : Grew a b T T') : ∀ i j, inT T i j → inT T' i j := fun i j k => h.sub _ k
theorem Holds.trans (h : Holds a b T T') (g : Grew a b T' T'') (k : Holds a b T' T'') : Holds a b T T'' := fun p hp => by
  rcases k p hp with h1 | h1
  · rcases h p h1 with h2 | h2
    · exact .inl h2
    · exact .inr (local_mono (inT_mono g) h2)
  · exact .inr h1
theorem out_plain {ok : Bool} (h : Tk a b T) (h1 : ok = true → ∀ U, onceP a b U r s) (h2 : ok = false → ∀ U, ¬ onceP a b U r s) : MeansOut a b T r s ok T :=
  ⟨Grew.refl h, fun e => ⟨h1 e _, fun p hp => .inl hp⟩, fun e => h2 e _⟩
theorem once_own_ne {U : Nat → Nat → Prop} (h : ownB r ≠ ownB s) : ¬ onceP a b U r s := by
  unfold ownB at h
  intro k
  apply h
  refine decide_eq_decide.2 ?_
  unfold onceP at k
  omega
theorem once_mod_ne {U : Nat → Nat → Prop} (h : ¬ (r.mod = 0 ↔ s.mod = 0)) : ¬ onceP a b U r s := by
  intro k; unfold onceP at k; omega
theorem once_far {U : Nat → Nat → Prop} (hr : 0 < r.mod) (hs : 0 < s.mod) : onceP a b U r s ↔ (r.idx = s.idx ∧ a.imps[(r.mod - 1).toNat]? = b.imps[(s.mod - 1).toNat]?) := by
  unfold onceP
  constructor
  · rintro (⟨_, _, h3, h4⟩ | ⟨h1, _⟩ | ⟨h1, _⟩)
    · exact ⟨h3, h4⟩
    · omega
    · omega
  · rintro ⟨h3, h4⟩
    exact .inl ⟨hr, hs, h3, h4⟩
theorem once_basic {U : Nat → Nat → Prop} (hr : r.mod = 0) (hs : s.mod = 0) (h1 : r.idx < 16) (h2 : s.idx < 16) : onceP a b U r s ↔ r.idx = s.idx := by
  unfold onceP
  constructor
  · rintro (⟨h, _⟩ | ⟨_, _, _, _, h⟩ | ⟨_, _, h, _⟩)
    · omega
    · exact h
    · omega
  · intro h; exact .inr (.inl ⟨hr, hs, h1, h2, h⟩)
theorem once_own {U : Nat → Nat → Prop} {i j : Nat} (hr : r = ⟨0, i + 16⟩) (hs : s = ⟨0, j + 16⟩) : onceP a b U r s ↔ U i j := by
  subst hr; subst hs
  have e1 : (((i : Int) + 16) - 16).toNat = i := by omega
  have e2 : (((j : Int) + 16) - 16).toNat = j := by omega
  unfold onceP
  dsimp only
  rw [e1, e2]
  constructor
  · rintro (⟨h, _⟩ | ⟨_, _, h, _⟩ | ⟨_, _, _, _, h⟩)
    · omega
    · omega
    · exact h
  · intro h; exact .inr (.inr ⟨rfl, rfl, by omega, by omega, h⟩)
/-- a pair that was not taken. -/
theorem out_new {i j : Nat} {x y : TD} {ok : Bool} (hr : r = ⟨0, i + 16⟩) (hs : s = ⟨0, j + 16⟩) (hx : a.types[i]? = some x) (hy : b.types[j]? = some y) (g1 : Grew a b T ((i, j) :: T)) (g2 : Grew a b ((i, j) :: T) T')
    (h1 : ok = true → formsP a b (inT T') x y ∧ Holds a b ((i, j) :: T) T') (h2 : ok = false → ¬ formsP a b (Alike a b) x y) : MeansOut a b T r s ok T' := by
  refine ⟨g1.trans g2, fun e => ⟨(once_own hr hs).2 (g2.sub _ (List.mem_cons_self ..)), fun p hp => ?_⟩, fun e k => h2 e ?_⟩
  · obtain ⟨q1, q2⟩ := h1 e
    rcases q2 p hp with h | h
    · rcases List.mem_cons.1 h with rfl | h
      · exact .inr ⟨x, y, hx, hy, q1⟩
      · exact .inl h
    · exact .inr h
  · obtain ⟨x', y', k1, k2, k3⟩ := alike_local ((once_own hr hs).1 k)
    rw [hx] at k1; rw [hy] at k2
    obtain rfl := Option.some.inj k1
    obtain rfl := Option.some.inj k2
    exact k3
theorem body_not2 {U : Nat → Nat → Prop} {x y : TD} (h : x.form ≠ 2) : bodyP a b U x y ↔ onceP a b U x.base y.base := by unfold bodyP; rw [if_neg h]
theorem body_2 {U : Nat → Nat → Prop} {x y : TD} (h : x.form = 2) : bodyP a b U x y ↔ (x.fields.length = y.fields.length ∧ ∀ (k : Nat) (f g : Fld), x.fields[k]? = some f → y.fields[k]? = some g → f.name = g.name ∧ f.off = g.off ∧ onceP a b U f.base g.base) := by unfold bodyP; rw [if_pos h]
theorem forms_head {U : Nat → Nat → Prop} {x y : TD} (h : ¬ (x.form = y.form ∧ x.len = y.len ∧ x.size = y.size)) : ¬ formsP a b U x y := fun k => h ⟨k.1, k.2.1, k.2.2.1⟩

/-! ### references that lead -/
def Leads (f : FD) (r : Rf) : Prop := noRef r = true ∨ refB f.env r = true
theorem env_ni8 (f : FD) : f.env.ni = f.imps.length := rfl
theorem env_len8 (f : FD) : f.env.forms.length = f.types.length := by unfold FD.env; rw [List.length_map]
theorem leads_far {f : FD} (h : Leads f r) (hr : 0 < r.mod) : r.mod ≤ f.imps.length := by
  rcases h with h | h
  · have := of_decide_eq_true h; omega
  · have := of_decide_eq_true h
    unfold refP at this
    rw [env_ni8] at this; omega
theorem leads_nn {f : FD} (h : Leads f r) : 0 ≤ r.mod := by
  rcases h with h | h
  · have := of_decide_eq_true h; omega
  · have := of_decide_eq_true h
    unfold refP at this; omega
theorem leads_own {f : FD} (h : Leads f r) (hr : ownB r = true) : ∃ i : Nat, r = ⟨0, i + 16⟩ ∧ i < f.types.length := by
  have h0 := of_decide_eq_true hr
  rcases h with h | h
  · have := of_decide_eq_true h; omega
  · have := of_decide_eq_true h
    unfold refP at this
    rw [env_len8] at this
    obtain ⟨m, i⟩ := r
    dsimp only at this h0
    obtain ⟨rfl, _⟩ := h0
    exact ⟨(i - 16).toNat, by congr 1; omega, by omega⟩
theorem closed_ref {e : Env} (h : closedB e r = true) : refB e r = true := by unfold closedB at h; rw [Bool.and_eq_true] at h; exact h.1
theorem leads_type {f : FD} (h : mayFace f = true) {x : TD} (hx : x ∈ f.types) : (x.form ≠ 2 → Leads f x.base) ∧ ∀ y ∈ x.fields, Leads f y.base := by
  unfold mayFace at h
  simp only [Bool.and_eq_true, List.all_eq_true] at h
  have h := h.1.2 x hx
  unfold mayTypeB at h
  split at h
  · rename_i h2
    simp only [Bool.and_eq_true] at h
    refine ⟨fun q => absurd h2 q, fun y hy => .inr (closed_ref ?_)⟩
    have : ∀ (l : List Fld) (seen : List ByteArray), fieldsOk f.env seen l = true → ∀ y ∈ l, fieldOk f.env y = true := by
      intro l
      induction l with
      | nil => intro _ _ y hy; cases hy
      | cons z r ih =>
        intro seen hh y hy
        unfold fieldsOk at hh
        simp only [Bool.and_eq_true] at hh
        rcases List.mem_cons.1 hy with rfl | hy
        · exact hh.1.1
        · exact ih _ hh.2 y hy
    have := this _ _ h.1 y hy
    unfold fieldOk at this
    rw [Bool.and_eq_true] at this
    exact this.2
  · split at h
    · simp only [Bool.and_eq_true, decide_eq_true_eq] at h
      exact ⟨fun _ => .inr (closed_ref h.2), fun y hy => by rw [List.length_eq_zero_iff.1 h.1.2] at hy; cases hy⟩
    · split at h
      · simp only [Bool.and_eq_true, decide_eq_true_eq] at h
        exact ⟨fun _ => .inr (closed_ref h.2), fun y hy => by rw [List.length_eq_zero_iff.1 h.1.2.2] at hy; cases hy⟩
      · cases h
theorem leads_obj {f : FD} (h : mayFace f = true) {x : ODD} (hx : x ∈ f.objs) : Leads f x.base ∧ ∀ p ∈ x.params, Leads f p.base := by
  have : ∀ (l : List ODD) (seen : List ODD), objsOk f.env seen l = true → ∀ y ∈ l, mayObjB f.env y = true := by
    intro l
    induction l with
    | nil => intro _ _ y hy; cases hy
    | cons z r ih =>
      intro seen hh y hy
      unfold objsOk at hh
      simp only [Bool.and_eq_true] at hh
      rcases List.mem_cons.1 hy with rfl | hy
      · exact hh.1.1
      · exact ih _ hh.2 y hy
  have h := this _ _ (may_parts h) x hx
  unfold mayObjB at h
  rw [Bool.and_eq_true] at h
  have h := h.2
  split at h
  · simp only [Bool.and_eq_true, Bool.or_eq_true, List.all_eq_true] at h
    refine ⟨?_, fun p hp => .inr (h.1.2 p hp)⟩
    rcases h.2 with h | h
    · exact .inl h
    · exact .inr (closed_ref h)
  · rw [Bool.and_eq_true, decide_eq_true_eq] at h
    refine ⟨?_, fun p hp => by rw [List.length_eq_zero_iff.1 h.1] at hp; cases hp⟩
    have h := h.2
    split at h
    · have := of_decide_eq_true h
      refine .inr (decide_eq_true ?_)
      unfold refP; omega
    · split at h
      · rw [Bool.and_eq_true] at h; exact .inr (closed_ref h.2)
      · split at h
        · rw [Bool.and_eq_true] at h; exact .inr (closed_ref h.2)
        · cases h

/-! ### memory -/
def twoQ (T : List (Nat × Nat)) : Lit → Prop := fun z => ∃ i j : Nat, (i, j) ∈ T ∧ z = twoL 0 (i + 16) 0 (j + 16)
def pairC (x y : Fc) (Bm : Nat) : Array Value := #[.string x.name, x.imps.val, x.types.val, x.objs.val, .string y.name, y.imps.val, y.types.val, y.objs.val, .map (some Bm)]
structure Pr (x y : Fc) (w0 w : World) (gp Bm : Nat) (T : List (Nat × Nat)) : Prop where
  bel : Below w0.heap.size w0 w
  pr : At w gp (pairC x y Bm) 57
  lo : w0.heap.size ≤ gp
  lm : w0.heap.size ≤ Bm
  map : SetMap w Try.prog 99 Bm T.length (twoQ T)
variable {x y : Fc} {w0 w w' : World} {gp Bm : Nat}
theorem Pr.on (h : Pr x y w0 w gp Bm T) (k : Below w.heap.size w w') : Pr x y w0 w' gp Bm T := ⟨bel_then h.bel k, h.pr.bel k, h.lo, h.lm, h.map.bel k⟩
theorem Pr.ne (h : Pr x y w0 w gp Bm T) : gp ≠ Bm := by
  rintro rfl
  obtain ⟨D, ⟨es, clock, hb, _⟩, _⟩ := h.map
  have := h.pr
  unfold At at this
  rw [hb] at this
  cases this
theorem Pr.nm (h : Pr x y w0 w gp Bm T) {g : Nat} {cs : Array Value} {t : TypeId} (ha : At w g cs t) : g ≠ Bm := by
  rintro rfl
  obtain ⟨D, ⟨es, clock, hb, _⟩, _⟩ := h.map
  unfold At at ha
  rw [hb] at ha
  cases ha
theorem Pr.mlt (h : Pr x y w0 w gp Bm T) : Bm < w.heap.size := h.map.lt
theorem two_inj {m i n j m' i' n' j' : Int} (h1 : keyOf Try.prog 99 (twoV m i n j) = some (twoL m i n j)) (h2 : keyOf Try.prog 99 (twoV m' i' n' j') = some (twoL m' i' n' j')) (e : twoL m i n j = twoL m' i' n' j') : m = m' ∧ i = i' ∧ n = n' ∧ j = j' := by
  have := two_keyed.inj h1 (by rw [h2, e])
  unfold twoV at this
  simp only [Value.agg.injEq] at this
  have := congrArg Array.toList this
  simp only [List.cons.injEq, Value.int.injEq, true_and, and_true] at this
  exact this
theorem two_key16 (i j : Nat) (hi : i ≤ 1000000) (hj : j ≤ 1000000) : keyOf Try.prog 99 (twoV 0 (i + 16) 0 (j + 16)) = some (twoL 0 (i + 16) 0 (j + 16)) :=
  two_key _ _ _ _ (wf_i64 (by omega)) (wf_i64 (by omega)) (wf_i64 (by omega)) (wf_i64 (by omega))
theorem twoQ_iff (hT : ∀ p ∈ T, p.1 ≤ 1000000 ∧ p.2 ≤ 1000000) {i j : Nat} (hi : i ≤ 1000000) (hj : j ≤ 1000000) : twoQ T (twoL 0 (i + 16) 0 (j + 16)) ↔ (i, j) ∈ T := by
  constructor
  · rintro ⟨i', j', h, e⟩
    have h' := hT _ h
    obtain ⟨_, e1, _, e2⟩ := two_inj (two_key16 i j hi hj) (two_key16 i' j' h'.1 h'.2) e
    obtain rfl : i = i' := by omega
    obtain rfl : j = j' := by omega
    exact h
  · exact fun h => ⟨i, j, h, rfl⟩
theorem zero_is2 (w : World) : (zeroValue 97).run Try.prog w = .ok (.agg #[.bool false]) w := by kernel_rfl
theorem Pr.look (h : Pr x y w0 w gp Bm T) (hT : ∀ p ∈ T, p.1 ≤ 1000000 ∧ p.2 ≤ 1000000) {i j : Nat} (hi : i ≤ 1000000) (hj : j ≤ 1000000) :
    (Instr.lookup 55 (.map (some Bm)) (twoV 0 (i + 16) 0 (j + 16)) false).run Try.prog w = .ok (.agg #[.bool (decide ((i, j) ∈ T))]) w := by
  have := h.map.look two_keyed Try.underlying55 (zero_is2 w) (two_key16 i j hi hj)
  have e : boolOf (twoQ T (twoL 0 (i + 16) 0 (j + 16))) = decide ((i, j) ∈ T) := by
    rw [boolOf_congr (twoQ_iff hT hi hj)]
    by_cases hm : (i, j) ∈ T
    · rw [boolOf_yes hm, decide_eq_true hm]
    · rw [boolOf_no hm, decide_eq_false hm]
  rw [this, e]
theorem twoQ_cons (i j : Nat) (z : Lit) : twoQ ((i, j) :: T) z ↔ z = twoL 0 (i + 16) 0 (j + 16) ∨ twoQ T z := by
  constructor
  · rintro ⟨i', j', h, e⟩
    rcases List.mem_cons.1 h with h | h
    · obtain ⟨rfl, rfl⟩ := Prod.mk.inj h; exact .inl e
    · exact .inr ⟨i', j', h, e⟩
  · rintro (h | ⟨i', j', h, e⟩)
    · exact ⟨i, j, List.mem_cons_self .., h⟩
    · exact ⟨i', j', List.mem_cons_of_mem _ h, e⟩
end Go.Proofs.Ytgcjdkgeiopllaa
