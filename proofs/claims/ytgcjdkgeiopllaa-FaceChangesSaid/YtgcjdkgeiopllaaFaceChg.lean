/- Plain: a face to itself; a face with one object changed. A row of objects of the call's own, one cell of it written. -/
import Derived.Test.YtgcjdkgeiopllaaFaceShows
namespace Go.Proofs.Ytgcjdkgeiopllaa
set_option linter.unusedVariables false
set_option linter.unusedSimpArgs false
open Go.RowKit

theorem alike_refl {a b : FD} (h : mayFace a = true) (hi : a.imps = b.imps) (ht : a.types = b.types) {i : Nat} (hl : i < a.types.length) : Alike a b i i := by
  have himp : ∀ k : Nat, a.imps[k]? = b.imps[k]? := fun k => by rw [hi]
  have href : ∀ r : Rf, Leads a r → onceP a b (fun i j => i = j ∧ i < a.types.length) r r := fun r hr => by
    by_cases h0 : 0 < r.mod
    · exact .inl ⟨h0, h0, rfl, himp _⟩
    · have h1 := leads_nn hr
      by_cases h2 : r.idx < 16
      · exact .inr (.inl ⟨by omega, by omega, h2, h2, rfl⟩)
      · obtain ⟨k, rfl, hk⟩ := leads_own hr (decide_eq_true (by omega))
        refine .inr (.inr ⟨rfl, rfl, by dsimp only; omega, by dsimp only; omega, rfl, ?_⟩)
        dsimp only
        omega
  refine ⟨fun i j => i = j ∧ i < a.types.length, ⟨rfl, hl⟩, ?_⟩
  rintro i j ⟨rfl, hlt⟩
  obtain ⟨x, hx⟩ := get_lt hlt
  refine ⟨x, x, hx, by rw [← ht]; exact hx, rfl, rfl, rfl, ?_⟩
  have hlx := leads_type h (List.mem_of_getElem? hx)
  unfold bodyP
  split
  · refine ⟨rfl, fun k f g hf hg => ?_⟩
    rw [hf] at hg
    obtain rfl := Option.some.inj hg
    exact ⟨rfl, rfl, href _ (hlx.2 f (List.mem_of_getElem? hf))⟩
  · rename_i hn
    exact href _ (hlx.1 hn)
theorem once_self {a b : FD} (h : mayFace a = true) (hi : a.imps = b.imps) (ht : a.types = b.types) {r : Rf} (hr : Leads a r) : onceP a b (Alike a b) r r := by
  by_cases h0 : 0 < r.mod
  · exact .inl ⟨h0, h0, rfl, by rw [hi]⟩
  · have h1 := leads_nn hr
    by_cases h2 : r.idx < 16
    · exact .inr (.inl ⟨by omega, by omega, h2, h2, rfl⟩)
    · obtain ⟨k, rfl, hk⟩ := leads_own hr (decide_eq_true (by omega))
      have e : (((k : Int) + 16) - 16).toNat = k := by omega
      refine .inr (.inr ⟨rfl, rfl, by dsimp only; omega, by dsimp only; omega, ?_⟩)
      dsimp only
      rw [e]
      exact alike_refl h hi ht hk
theorem sameO_self {a b : FD} (h : mayFace a = true) (hi : a.imps = b.imps) (ht : a.types = b.types) {o : ODD} (ho : o ∈ a.objs) : sameO a b o o := by
  obtain ⟨h1, h2⟩ := leads_obj h ho
  refine ⟨rfl, rfl, once_self h hi ht h1, rfl, fun k p p' hp hp' => ?_⟩
  rw [hp] at hp'
  obtain rfl := Option.some.inj hp'
  exact ⟨rfl, once_self h hi ht (h2 p (List.mem_of_getElem? hp))⟩
theorem shows_self {a : FD} (h : mayFace a = true) : showsP a a := ⟨h, h, rfl, rfl, fun o ho => ⟨o, ho, rfl, sameO_self h rfl rfl ho⟩⟩

def withO (f : FD) (k : Nat) (o : ODD) : FD := { f with objs := f.objs.set k o }
theorem chg_value {f : FD} {k : Nat} {o : ODD} (hk : f.objs[k]? = some o) (hf : mayFace f = true) (v : Int) (hg : mayFace (withO f k { o with value := v }) = true) : showsB f (withO f k { o with value := v }) = !(o.value != v) := by
  by_cases hv : o.value = v
  · have e : withO f k { o with value := v } = f := by
      unfold withO
      rw [← hv]
      have : f.objs.set k o = f.objs := by
        refine List.ext_getElem? (fun i => ?_)
        rw [List.getElem?_set]
        split
        · rename_i h
          subst h
          rw [hk]
          split
          · rfl
          · rename_i h; exact absurd (List.getElem?_eq_some_iff.1 hk).1 h
        · rfl
      rw [show (⟨o.cls, o.name, o.base, o.value, o.params⟩ : ODD) = o from rfl, this]
    rw [e, showsB_yes (shows_self hf), hv]
    simp
  · have : showsB f (withO f k { o with value := v }) = false := showsB_no (fun ⟨_, _, _, _, h⟩ => by
      obtain ⟨q, hq, e, hs⟩ := h o (List.mem_of_getElem? hk)
      have hm : ({ o with value := v } : ODD) ∈ (withO f k { o with value := v }).objs := List.mem_of_getElem? (i := k) (by
        show (f.objs.set k _)[k]? = _
        rw [List.getElem?_set, if_pos rfl, if_pos (List.getElem?_eq_some_iff.1 hk).1])
      have := nodup_inj (may_nodup hg) q hq _ hm e
      rw [this] at hs
      exact hv hs.2.1)
    rw [this]
    have : (o.value != v) = true := by rw [bne_iff_ne]; exact hv
    rw [this]; rfl
theorem chg_name {f : FD} {k : Nat} {o : ODD} (hk : f.objs[k]? = some o) {s : ByteArray} (hs : ∀ q ∈ f.objs, q.name ≠ s) : showsB f (withO f k { o with name := s }) = false := showsB_no (fun ⟨hf, _, _, _, h⟩ => by
  obtain ⟨q, hq, e, _⟩ := h o (List.mem_of_getElem? hk)
  obtain ⟨j, hj⟩ := List.mem_iff_getElem?.1 hq
  have hj : (f.objs.set k { o with name := s })[j]? = some q := hj
  rw [List.getElem?_set] at hj
  split at hj
  · split at hj
    · obtain rfl := Option.some.inj hj
      exact hs o (List.mem_of_getElem? hk) e.symm
    · cases hj
  · rename_i hne
    have hn := may_nodup hf
    have h1 : (f.objs.map ODD.name)[j]? = some o.name := by rw [List.getElem?_map, hj]; exact congrArg some e
    have h2 : (f.objs.map ODD.name)[k]? = some o.name := by rw [List.getElem?_map, hk]; rfl
    obtain ⟨l1, e1⟩ := List.getElem?_eq_some_iff.1 h1
    obtain ⟨l2, e2⟩ := List.getElem?_eq_some_iff.1 h2
    rcases Nat.lt_or_ge j k with hlt | hge
    · exact List.pairwise_iff_getElem.1 hn j k l1 l2 hlt (e1.trans e2.symm)
    · exact List.pairwise_iff_getElem.1 hn k j l2 l1 (by omega) (e2.trans e1.symm))

/-! ### a row of objects of the call's own -/
structure OwnO (w : World) (h cap : Nat) (l : List FO) : Prop where
  ex : ∃ cur : Array Value, At w h cur 37 ∧ ∀ (j : Nat) (u : Value), (l.flatMap FO.cells)[j]? = some u → cur[j]? = some u
  le : l.length ≤ cap
  cap : cap ≤ maxLen
theorem OwnO.of {w : World} {base : Nat} {v : Value} {n : Nat} {l : List FO} (h : w.ownsRow base 37 6 v n (l.flatMap FO.cells)) (hn : n = l.length) (h0 : 0 < l.length) : ∃ g cap, v = .slice (some ⟨g, 0, none⟩) l.length cap ∧ base ≤ g ∧ g < w.heap.size ∧ v.ownBlock = some g ∧ OwnO w g cap l := by
  subst hn
  have hlt := h.lt
  obtain ⟨h1, h2⟩ := h
  rcases h2 with ⟨rfl, hx⟩ | ⟨g, cap, cur, rfl, hb, hA, q3, q4, q5, q6⟩
  · have : (l.flatMap FO.cells).length = l.length * 6 := flat_len foD l
    rw [hx] at this
    simp at this
    omega
  · refine ⟨g, cap, rfl, hb, (hlt g rfl).2, rfl, ⟨cur, hA, fun j u hj => ?_⟩, q3, q4⟩
    have hjl := (List.getElem?_eq_some_iff.1 hj).1
    have hlen : (l.flatMap FO.cells).length = l.length * 6 := flat_len foD l
    rw [← q6, List.getElem?_take] at hj
    split at hj
    · simpa using hj
    · cases hj
variable {w w' : World} {g cap k : Nat} {l : List FO}
theorem OwnO.bel (h : OwnO w g cap l) (kk : Below w.heap.size w w') : OwnO w' g cap l := by
  obtain ⟨cur, hA, hc⟩ := h.ex
  exact ⟨⟨cur, hA.bel kk, hc⟩, h.le, h.cap⟩
theorem OwnO.ke {G : Nat → Prop} (h : OwnO w g cap l) (kk : Ke G w w') (hG : ¬ G g) : OwnO w' g cap l := by
  obtain ⟨cur, hA, hc⟩ := h.ex
  exact ⟨⟨cur, hA.ke kk hG, hc⟩, h.le, h.cap⟩
theorem OwnO.lt (h : OwnO w g cap l) : g < w.heap.size := by obtain ⟨cur, hA, hc⟩ := h.ex; exact hA.lt
theorem OwnO.cell (h : OwnO w g cap l) {x : FO} (hk : l[k]? = some x) {q : Nat} {u : Value} (hq : (FO.cells x)[q]? = some u) : w.cell? ⟨g, k * 6 + q, none⟩ = some u := by
  obtain ⟨cur, hA, hc⟩ := h.ex
  rw [hA.cell]
  exact hc _ u (flat_get foD l k x hk q u hq)
theorem OwnO.rows (h : OwnO w g cap l) (h0 : ∀ x ∈ l, foD.ok w x) : Rows foD w ⟨some ⟨g, 0, none⟩, cap, l⟩ := by
  obtain ⟨cur, hA, hc⟩ := h.ex
  exact ⟨⟨⟨g, 0, fun _ => ⟨rfl, hA.lt⟩, fun j u hj => by rw [Nat.zero_add, hA.cell]; exact hc j u hj⟩, fun e => (by cases e), h.le, h.cap⟩, h0⟩
theorem flat_set : ∀ (l : List FO) (k : Nat) (x x' : FO) (q : Nat) (v : Value), l[k]? = some x → q < 6 → FO.cells x' = (FO.cells x).set q v → (l.set k x').flatMap FO.cells = (l.flatMap FO.cells).set (k * 6 + q) v
  | [], k, x, x', q, v, h, _, _ => by simp at h
  | y :: r, 0, x, x', q, v, h, hq, hx => by
    simp at h; subst h
    rw [List.set_cons_zero, List.flatMap_cons, List.flatMap_cons, hx, Nat.zero_mul, Nat.zero_add, List.set_append_left]
    show q < 6
    exact hq
  | y :: r, k + 1, x, x', q, v, h, hq, hx => by
    rw [List.set_cons_succ, List.flatMap_cons, List.flatMap_cons, flat_set r k x x' q v (by simpa using h) hq hx]
    have hl : (FO.cells y).length = 6 := rfl
    rw [List.set_append_right _ _ (by rw [hl]; omega), hl, show (k + 1) * 6 + q - 6 = k * 6 + q by omega]
/-- one cell of one object is written. -/
theorem OwnO.put {cur : Array Value} (hc : ∀ (j : Nat) (u : Value), (l.flatMap FO.cells)[j]? = some u → cur[j]? = some u) {x x' : FO} (hk : l[k]? = some x) {q : Nat} {v : Value} (hq : q < 6) (hx : FO.cells x' = (FO.cells x).set q v) (hA : At w' g (cur.setIfInBounds (k * 6 + q) v) 37) (hle : l.length ≤ cap) (hcap : cap ≤ maxLen) : OwnO w' g cap (l.set k x') := by
  refine ⟨⟨_, hA, fun j u hj => ?_⟩, by rw [List.length_set]; exact hle, hcap⟩
  rw [flat_set l k x x' q v hk hq hx, List.getElem?_set] at hj
  rw [Array.getElem?_setIfInBounds]
  split at hj
  · rename_i e
    rw [if_pos e]
    split at hj
    · obtain ⟨u', hu'⟩ : ∃ u', (l.flatMap FO.cells)[k * 6 + q]? = some u' := ⟨_, List.getElem?_eq_getElem (by assumption)⟩
      have := (Array.getElem?_eq_some_iff.1 (hc _ u' hu')).1
      rw [if_pos this]; exact hj
    · cases hj
  · rename_i e
    rw [if_neg e]; exact hc j u hj
theorem own_at {cur : Array Value} (hc : ∀ (j : Nat) (u : Value), (l.flatMap FO.cells)[j]? = some u → cur[j]? = some u) {x : FO} (hk : l[k]? = some x) {q : Nat} (hq : q < 6) : decide (k * 6 + q < cur.size) = true := by
  obtain ⟨u, hu⟩ : ∃ u, (FO.cells x)[q]? = some u := ⟨_, List.getElem?_eq_getElem (show q < 6 from hq)⟩
  exact decide_eq_true (Array.getElem?_eq_some_iff.1 (hc _ u (flat_get foD l k x hk q u hu))).1
theorem et_obj : ET Try.prog 24 37 (.agg #[.int .i64 0, .string ⟨#[]⟩, .int .i64 0, .int .i64 0, .int .u32 0, .slice none 0 0]) 6 72 := ET.of Try.underlying24 (by kernel_rfl) (by decide) (by decide)
theorem obj_one (l : List FO) : ∀ u ∈ l.flatMap FO.cells, u.oneCell' = true := by
  intro u hu
  obtain ⟨x, _, hx⟩ := List.mem_flatMap.1 hu
  have hx : u ∈ ([.int .i64 x.cls, .string x.name, .int .i64 x.base.mod, .int .i64 x.base.idx, .int .u32 x.value, x.params.val] : List Value) := hx
  simp only [List.mem_cons, List.not_mem_nil, or_false] at hx
  rcases hx with rfl | rfl | rfl | rfl | rfl | rfl <;> rfl
end Go.Proofs.Ytgcjdkgeiopllaa
