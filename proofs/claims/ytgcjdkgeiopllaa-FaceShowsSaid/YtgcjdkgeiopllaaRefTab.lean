/- Walk: the reference's table of types that unfold alike. Printed by bin/gen_ref20t.py. -/
import Derived.Test.YtgcjdkgeiopllaaRefT
namespace Go.Proofs.Ytgcjdkgeiopllaa
set_option linter.unusedVariables false
set_option linter.unusedSimpArgs false
open Go.RowKit

/-- rows of a table: where each lies, its room, what it holds. -/
abbrev TRow := Option Addr × Nat × List Bool
def rowsR (n : Nat) (rs : List TRow) : List Res := rs.map (fun r => rw' r.1 n r.2.1 4 1 (r.2.2.map Value.bool))
def heads (n : Nat) (rs : List TRow) : List Value := rs.map (fun r => Value.slice r.1 n r.2.1)
def tbl (rs : List TRow) (i k : Nat) : Bool := match rs[i]? with | some r => r.2.2.getD k false | none => false
def cnt (rs : List TRow) : Nat := (rs.map (fun r => r.2.2.count true)).sum
def ShapeT (m n : Nat) (rs : List TRow) : Prop := rs.length = m ∧ ∀ r ∈ rs, r.2.2.length = n
theorem tbl_of {rs : List TRow} {i k : Nat} {r : TRow} {b : Bool} (h : rs[i]? = some r) (hb : r.2.2[k]? = some b) : tbl rs i k = b := by
  unfold tbl
  rw [h]
  simp [List.getD_eq_getElem?_getD, hb]
theorem rows_at {n : Nat} {rs : List TRow} {i : Nat} {r : TRow} (h : rs[i]? = some r) : (rowsR n rs)[i]? = some (rw' r.1 n r.2.1 4 1 (r.2.2.map Value.bool)) := by
  unfold rowsR
  rw [List.getElem?_map, h]; rfl
theorem rows_set {n : Nat} {rs : List TRow} {i : Nat} {r : TRow} : (rowsR n rs).set i (rw' r.1 n r.2.1 4 1 (r.2.2.map Value.bool)) = rowsR n (rs.set i r) := by
  unfold rowsR
  rw [List.map_set]
theorem rows_snoc {n : Nat} {rs : List TRow} {a : Option Addr} {c : Nat} {l : List Bool} {xs : List Value} (h : l.map Value.bool = xs) : rowsR n rs ++ [rw' a n c 4 1 xs] = rowsR n (rs ++ [(a, c, l)]) := by
  subst h
  unfold rowsR
  rw [List.map_append]; rfl
theorem cnt_set {rs : List TRow} {i k : Nat} {r : TRow} (h : rs[i]? = some r) (hb : r.2.2[k]? = some true) : cnt (rs.set i (r.1, r.2.1, r.2.2.set k false)) + 1 = cnt rs := by
  induction rs generalizing i with
  | nil => simp at h
  | cons x rs ih =>
    cases i with
    | zero =>
      simp at h
      subst h
      simp only [List.set_cons_zero, cnt, List.map_cons, List.sum_cons]
      have : (x.2.2.set k false).count true + 1 = x.2.2.count true := by
        obtain ⟨hk, he⟩ := List.getElem?_eq_some_iff.1 hb
        rw [List.count_set hk, he]
        have : 0 < x.2.2.count true := List.count_pos_iff.2 (by rw [← he]; exact List.getElem_mem hk)
        simp
        omega
      omega
    | succ i =>
      have := ih (i := i) (by simpa using h)
      simp only [List.set_cons_succ, cnt, List.map_cons, List.sum_cons] at *
      omega
theorem shape_set {m n : Nat} {rs : List TRow} {i k : Nat} {r : TRow} (h : ShapeT m n rs) (hr : rs[i]? = some r) (b : Bool) : ShapeT m n (rs.set i (r.1, r.2.1, r.2.2.set k b)) := by
  refine ⟨by rw [List.length_set]; exact h.1, fun x hx => ?_⟩
  rcases List.mem_or_eq_of_mem_set hx with hx | rfl
  · exact h.2 x hx
  · show (r.2.2.set k b).length = n
    rw [List.length_set]; exact h.2 r (List.mem_of_getElem? hr)
theorem tbl_set {rs : List TRow} {i k : Nat} {r : TRow} (hr : rs[i]? = some r) {b : Bool} {i' k' : Nat} (h : ¬ (i' = i ∧ k' = k)) : tbl (rs.set i (r.1, r.2.1, r.2.2.set k b)) i' k' = tbl rs i' k' := by
  unfold tbl
  rw [List.getElem?_set]
  by_cases e : i = i'
  · subst e
    rw [if_pos rfl, if_pos (List.getElem?_eq_some_iff.1 hr).1, hr]
    simp only [List.getD_eq_getElem?_getD]
    rw [List.getElem?_set_ne (fun q => h ⟨rfl, q.symm⟩)]
  · rw [if_neg e]
theorem cnt_le {m n : Nat} {rs : List TRow} (h : ShapeT m n rs) : cnt rs ≤ m * n := by
  obtain ⟨h1, h2⟩ := h
  subst h1
  induction rs with
  | nil => simp [cnt]
  | cons x rs ih =>
    have e1 := ih (fun r hr => h2 r (List.mem_cons_of_mem _ hr))
    have e2 : x.2.2.count true ≤ n := by rw [← h2 x (List.mem_cons_self ..)]; exact List.count_le_length
    simp only [cnt, List.map_cons, List.sum_cons, List.length_cons, Nat.add_mul] at *
    omega
theorem shape_get {m n : Nat} {rs : List TRow} (h : ShapeT m n rs) {i k : Nat} (hi : i < m) (hk : k < n) : ∃ (a : Option Addr) (c : Nat) (l : List Bool) (b : Bool), rs[i]? = some (a, c, l) ∧ l[k]? = some b ∧ l.length = n := by
  obtain ⟨r, hr⟩ := get_lt (l := rs) (i := i) (by rw [h.1]; exact hi)
  have hl := h.2 r (List.mem_of_getElem? hr)
  obtain ⟨b, hb⟩ := get_lt (l := r.2.2) (i := k) (by omega)
  exact ⟨r.1, r.2.1, r.2.2, b, hr, hb, hl⟩
/-- all that are alike still stand in the table. -/
def AboveT (a b : FD) (rs : List TRow) : Prop := ∀ i k, Alike a b i k → tbl rs i k = true
def DoneT (a b : FD) (rs : List TRow) (i k : Nat) : Prop := ∀ i' k', i' < i ∨ (i' = i ∧ k' < k) → tbl rs i' k' = true → localP a b (fun p q => tbl rs p q = true) i' k'
def RoundT (a b : FD) (c0 : Nat) (rs : List TRow) (ch : Bool) (i k : Nat) : Prop := AboveT a b rs ∧ ShapeT a.types.length b.types.length rs ∧ (ch = true → cnt rs < c0) ∧ (ch = false → cnt rs = c0 ∧ DoneT a b rs i k)
theorem alike_lt {a b : FD} {i k : Nat} (h : Alike a b i k) : i < a.types.length ∧ k < b.types.length := by
  obtain ⟨x, y, h1, h2, _⟩ := alike_local h
  exact ⟨(List.getElem?_eq_some_iff.1 h1).1, (List.getElem?_eq_some_iff.1 h2).1⟩
theorem round_keep {a b : FD} {c0 : Nat} {rs : List TRow} {ch : Bool} {i k : Nat} (h : RoundT a b c0 rs ch i k) (hf : tbl rs i k = true → localP a b (fun p q => tbl rs p q = true) i k) : RoundT a b c0 rs ch i (k + 1) := by
  obtain ⟨h1, h2, h3, h4⟩ := h
  refine ⟨h1, h2, h3, fun hc => ⟨(h4 hc).1, fun i' k' hb ht => ?_⟩⟩
  by_cases e : i' = i ∧ k' = k
  · obtain ⟨rfl, rfl⟩ := e; exact hf ht
  · exact (h4 hc).2 i' k' (by omega) ht
theorem round_strike {a b : FD} {c0 : Nat} {rs : List TRow} {ch : Bool} {i k : Nat} {r : TRow} (h : RoundT a b c0 rs ch i k) (hr : rs[i]? = some r) (hb : r.2.2[k]? = some true) (hn : ¬ localP a b (fun p q => tbl rs p q = true) i k) :
    RoundT a b c0 (rs.set i (r.1, r.2.1, r.2.2.set k false)) true i (k + 1) := by
  obtain ⟨h1, h2, h3, h4⟩ := h
  have hc := cnt_set hr hb
  refine ⟨fun i' k' hal => ?_, shape_set h2 hr false, fun _ => ?_, fun e => by cases e⟩
  · by_cases e : i' = i ∧ k' = k
    · obtain ⟨rfl, rfl⟩ := e
      exact absurd (local_mono (fun p q hpq => h1 p q hpq) (alike_local hal)) hn
    · rw [tbl_set hr e]; exact h1 i' k' hal
  · cases ch with
    | true => have := h3 rfl; omega
    | false => have := (h4 rfl).1; omega
theorem round_row {a b : FD} {c0 : Nat} {rs : List TRow} {ch : Bool} {i k : Nat} (h : RoundT a b c0 rs ch i k) (hk : b.types.length ≤ k) : RoundT a b c0 rs ch (i + 1) 0 := by
  obtain ⟨h1, h2, h3, h4⟩ := h
  refine ⟨h1, h2, h3, fun hc => ⟨(h4 hc).1, fun i' k' hb ht => (h4 hc).2 i' k' ?_ ht⟩⟩
  have hk' : k' < b.types.length := by
    unfold tbl at ht
    split at ht
    · rename_i r hr
      rw [← h2.2 r (List.mem_of_getElem? hr)]
      rcases Nat.lt_or_ge k' r.2.2.length with q | q
      · exact q
      · rw [List.getD_eq_getElem?_getD, List.getElem?_eq_none q] at ht; cases ht
    · cases ht
  omega
theorem round_start {a b : FD} {rs : List TRow} (h1 : AboveT a b rs) (h2 : ShapeT a.types.length b.types.length rs) : RoundT a b (cnt rs) rs false 0 0 := ⟨h1, h2, nofun, fun _ => ⟨rfl, fun i k h => by omega⟩⟩
theorem round_done {a b : FD} {c0 : Nat} {rs : List TRow} {i : Nat} (h : RoundT a b c0 rs false i 0) (hi : a.types.length ≤ i) : ∀ i k, tbl rs i k = true ↔ Alike a b i k := fun i' k' => by
  obtain ⟨h1, h2, h3, h4⟩ := h
  refine ⟨fun ht => alike_of (T := fun p q => tbl rs p q = true) (fun p q hpq => (h4 rfl).2 p q (.inl ?_) hpq) ht, h1 i' k'⟩
  unfold tbl at hpq
  split at hpq
  · rename_i r hr
    have := (List.getElem?_eq_some_iff.1 hr).1
    rw [h2.1] at this; omega
  · cases hpq
theorem above_true {a b : FD} {rs : List TRow} (h : ShapeT a.types.length b.types.length rs) (ht : ∀ r ∈ rs, r.2.2 = List.replicate b.types.length true) : AboveT a b rs := fun i k hal => by
  obtain ⟨h1, h2⟩ := alike_lt hal
  obtain ⟨r, hr⟩ := get_lt (l := rs) (i := i) (by rw [h.1]; exact h1)
  refine tbl_of hr ?_
  rw [ht r (List.mem_of_getElem? hr), List.getElem?_replicate, if_pos h2]
/-- the table in memory, as it is read. -/
theorem tb_rd {w0 w : World} {A : List Res} {n m c : Nat} {a : Option Addr} {rs : List TRow} (M : Mem w0 w (rw' a m c 95 1 (heads n rs) :: A ++ rowsR n rs)) (h : ShapeT m n rs) : TbRd w a m n (tbl rs) := fun i k hi hk => by
  obtain ⟨ra, rc, l, b, hr, hb, hl⟩ := shape_get h hi hk
  obtain ⟨g, rfl, _, hg⟩ := own_open (M.get 0 rfl : w.ownsRow 0 95 1 (.slice a m c) m (heads n rs)) (by omega)
  have hrow : ((rw' (some ⟨g, 0, none⟩) m c 95 1 (heads n rs) :: A) ++ rowsR n rs)[1 + A.length + i]? = some (rw' ra n rc 4 1 (l.map Value.bool)) := tail_at (rows_at hr) (by simp; omega)
  obtain ⟨g2, rfl, _, hg2⟩ := own_open (M.get _ hrow : w.ownsRow 0 4 1 (.slice ra n rc) n (l.map Value.bool)) (by omega)
  refine ⟨g, 0, g2, 0, rc, rfl, M.lt 0 rfl (b := g) rfl, ?_, M.lt _ hrow (b := g2) rfl, ?_⟩
  · rw [Nat.zero_add, Nat.mul_one]
    exact hg i _ (by unfold heads; rw [List.getElem?_map, hr]; rfl)
  · rw [Nat.zero_add, Nat.mul_one]
    exact hg2 k _ (by rw [List.getElem?_map, hb, tbl_of hr hb]; rfl)
theorem heads_set {n i : Nat} {rs : List TRow} {a : Option Addr} {c : Nat} {l l' : List Bool} (h : rs[i]? = some (a, c, l)) : heads n (rs.set i (a, c, l')) = heads n rs := by
  unfold heads
  rw [List.map_set]
  refine List.ext_getElem? (fun j => ?_)
  rw [List.getElem?_set]
  split
  · rename_i e
    subst e
    split
    · rw [List.getElem?_map, h]; rfl
    · rename_i q; rw [List.getElem?_eq_none (by omega)]
  · rfl
theorem row_load {P : Program} {w0 w : World} {A : List Res} {n i k : Nat} {rs : List TRow} {g c : Nat} {l : List Bool} {b : Bool} {ty : TypeId} (M : Mem w0 w (A ++ rowsR n rs)) (hr : rs[i]? = some (some ⟨g, 0, none⟩, c, l)) (hb : l[k]? = some b) {d : TypeDesc} (hu : P.underlying ty = some d) (hd : d.isRow = false) {o : Nat} (ho : o = k) :
    (Instr.loadAt ty (.pointer (some ⟨g, o, none⟩))).run P w = .ok (.bool b) w := M.ldRow (A.length + i) (tail_at (rows_at hr) rfl) k (by rw [List.getElem?_map, hb]; rfl) hu hd ho
theorem row_store {P : Program} {w0 w : World} {A : List Res} {n i k : Nat} {rs : List TRow} {g c : Nat} {l : List Bool} {b : Bool} {ty : TypeId} (M : Mem w0 w (A ++ rowsR n rs)) (hr : rs[i]? = some (some ⟨g, 0, none⟩, c, l)) (hk : k < l.length) (hi : (P.info? ty).map (·.size) = some 1) {o : Nat} (ho : o = k) :
    ∃ w', (Instr.storeAt ty (.pointer (some ⟨g, o, none⟩)) (.bool b)).run P w = .ok () w' ∧ Mem w0 w' (A ++ rowsR n (rs.set i (some ⟨g, 0, none⟩, c, l.set k b))) ∧ Ke (· = g) w w' ∧ w'.heap.size = w.heap.size := by
  subst ho
  have h := M.stRow (P := P) (A.length + i) (tail_at (rows_at hr) rfl) o (by rw [List.length_map]; exact hk) (v := .bool b) rfl hi rfl
  have e : (rowsR n rs).set i (rw' (some ⟨g, 0, none⟩) n c 4 1 ((l.map Value.bool).set o (.bool b))) = rowsR n (rs.set i (some ⟨g, 0, none⟩, c, l.set o b)) := by
    rw [← rows_set]
    show _ = (rowsR n rs).set i (rw' (some ⟨g, 0, none⟩) n c 4 1 ((l.set o b).map Value.bool))
    rw [List.map_set]
  rw [set_tail rfl, e] at h
  exact h
theorem row_open {w0 w : World} {A : List Res} {n i : Nat} {rs : List TRow} {a : Option Addr} {c : Nat} {l : List Bool} (M : Mem w0 w (A ++ rowsR n rs)) (hr : rs[i]? = some (a, c, l)) (hn : 0 < n) : ∃ g, a = some ⟨g, 0, none⟩ := by
  obtain ⟨g, rfl, _⟩ := own_open (M.get (A.length + i) (tail_at (rows_at hr) rfl) : w.ownsRow 0 4 1 (.slice a n c) n (l.map Value.bool)) hn
  exact ⟨g, rfl⟩

theorem table_walk (x y : Fc) (w : World) (hx : x.Rd w) (hy : y.Rd w) (fx : ∀ t ∈ x.types.l, FtIn t x.imps.l.length x.types.l.length) (fy : ∀ t ∈ y.types.l, FtIn t y.imps.l.length y.types.l.length) (bx1 : x.types.l.length ≤ 1000) (by1 : y.types.l.length ≤ 1000) :
    Calls Try.prog 28 #[x.val, y.val] w fun e w' => ∃ (a : Option Addr) (c : Nat) (T : Nat → Nat → Bool), e = .returned (.slice a x.types.l.length c) ∧ TbRd w' a x.types.l.length y.types.l.length T ∧ (∀ i k, T i k = true ↔ Alike x.d y.d i k) ∧ Below w.heap.size w w' := by
  have lx : x.d.types.length = x.types.l.length := types_len x
  have ly : y.d.types.length = y.types.l.length := types_len y
  obtain ⟨DX, hDX⟩ : ∃ D, D = x.d := ⟨_, rfl⟩
  obtain ⟨DY, hDY⟩ : ∃ D, D = y.d := ⟨_, rfl⟩
  rw [← hDX] at lx ⊢
  rw [← hDY] at ly ⊢
  obtain ⟨xn, ⟨xa1, xc1, xl1⟩, ⟨xa2, xc2, xl2⟩, ⟨xa3, xc3, xl3⟩⟩ := x
  obtain ⟨yn, ⟨ya1, yc1, yl1⟩, ⟨ya2, yc2, yl2⟩, ⟨ya3, yc3, yl3⟩⟩ := y
  dsimp only at fx fy bx1 by1 lx ly
  refine SC.enter (vs := [.agg #[.string xn, .slice xa1 xl1.length xc1, .slice xa2 xl2.length xc2, .slice xa3 xl3.length xc3], .agg #[.string yn, .slice ya1 yl1.length yc1, .slice ya2 yl2.length yc2, .slice ya3 yl3.length yc3]]) (n := 92) (l := [(0, .agg #[.string xn, .slice xa1 xl1.length xc1, .slice xa2 xl2.length xc2, .slice xa3 xl3.length xc3]), (1, .agg #[.string yn, .slice ya1 yl1.length yc1, .slice ya2 yl2.length yc2, .slice ya3 yl3.length yc3])]) Try.func28 (by kernel_rfl) (by kernel_rfl) (by kernel_rfl) (by kernel_rfl) ?_
  have M0 := Mem.start w
  refine SC.seq (by kernel_rfl) ?_
  refine SC.region [0, 1, 2] (by kernel_rfl) (by kernel_rfl) ?_
  refine SL.boxM (d := 2) (t := 26) (v := .agg #[.string xn, .slice xa1 xl1.length xc1, .slice xa2 xl2.length xc2, .slice xa3 xl3.length xc3]) (cs := #[.string xn, .slice xa1 xl1.length xc1, .slice xa2 xl2.length xc2, .slice xa3 xl3.length xc3]) M0 (by kernel_rfl) rfl ?_
  intro g1 w2 hb3 ⟨bg1, lg1⟩ M4
  refine SL.boxM (d := 3) (t := 26) (v := .agg #[.string yn, .slice ya1 yl1.length yc1, .slice ya2 yl2.length yc2, .slice ya3 yl3.length yc3]) (cs := #[.string yn, .slice ya1 yl1.length yc1, .slice ya2 yl2.length yc2, .slice ya3 yl3.length yc3]) M4 (by kernel_rfl) rfl ?_
  intro g5 w6 hb7 ⟨bg5, lg5⟩ M8
  refine SL.run (d := 4) (v := .slice none 0 0) (by kernel_rfl) ?_
  refine SL.nil ?_
  refine SC.next ?_
  refine SC.seq (by kernel_rfl) ?_
  refine SC.region [0] (by kernel_rfl) (by kernel_rfl) ?_
  refine SL.run (d := 5) (v := .slice none 0 0) (by kernel_rfl) ?_
  refine SL.nil ?_
  refine SC.next ?_
  refine SC.seq (by kernel_rfl) ?_
  refine SC.seq (by kernel_rfl) ?_
  refine SC.region [0] (by kernel_rfl) (by kernel_rfl) ?_
  refine SL.run (d := 6) (v := .int .i64 0) (by kernel_rfl) ?_
  refine SL.nil ?_
  refine SC.next ?_
  refine SC.block (i := 0) (by kernel_rfl) ?_
  have M9 : Mem w w6 ([rw' none 0 0 95 1 [], bx g5 #[.string yn, .slice ya1 yl1.length yc1, .slice ya2 yl2.length yc2, .slice ya3 yl3.length yc3] 26, bx g1 #[.string xn, .slice xa1 xl1.length xc1, .slice xa2 xl2.length xc2, .slice xa3 xl3.length xc3] 26]) := Mem.addNil M8
  refine SC.loopA (X := Nat × Option Addr × Nat × List TRow) (fun x => [(2, .pointer (some ⟨g1, 0, none⟩)), (3, .pointer (some ⟨g5, 0, none⟩)), (4, .slice none 0 0), (5, .slice x.2.1 x.1 x.2.2.1), (6, .int .i64 ((x.1 : Nat) : Int))]) (fun x wr => Mem w wr ([rw' x.2.1 x.1 x.2.2.1 95 1 (heads yl2.length x.2.2.2), bx g5 #[.string yn, .slice ya1 yl1.length yc1, .slice ya2 yl2.length yc2, .slice ya3 yl3.length yc3] 26, bx g1 #[.string xn, .slice xa1 xl1.length xc1, .slice xa2 xl2.length xc2, .slice xa3 xl3.length xc3] 26] ++ rowsR yl2.length x.2.2.2) ∧ (x.1 ≤ xl2.length ∧ x.2.2.2.length = x.1 ∧ ∀ r ∈ x.2.2.2, r.2.2 = List.replicate yl2.length true)) (fun x => xl2.length - x.1) (PanOk.block (PanOk.seq PanOk.body)) (by kernel_rfl) ⟨0, none, 0, []⟩ (by kernel_rfl) ⟨M9, ⟨Nat.zero_le _, rfl, nofun⟩⟩ ?_
  rintro ⟨i, ta, tc, rs⟩ w15 ⟨M16, hI10⟩ Q11 ag12 ex13 pn14
  replace M16 : Mem w w15 ([rw' ta i tc 95 1 (heads yl2.length rs), bx g5 #[.string yn, .slice ya1 yl1.length yc1, .slice ya2 yl2.length yc2, .slice ya3 yl3.length yc3] 26, bx g1 #[.string xn, .slice xa1 xl1.length xc1, .slice xa2 xl2.length xc2, .slice xa3 xl3.length xc3] 26] ++ rowsR yl2.length rs) := M16
  replace hI10 : i ≤ xl2.length ∧ rs.length = i ∧ ∀ r ∈ rs, r.2.2 = List.replicate yl2.length true := hI10
  show SC _ _ _ _ _ [(2, .pointer (some ⟨g1, 0, none⟩)), (3, .pointer (some ⟨g5, 0, none⟩)), (4, .slice none 0 0), (5, .slice ta i tc), (6, .int .i64 ((i : Nat) : Int))] _
  obtain ⟨hi, hrl, hrt⟩ := hI10
  refine SC.seq (by kernel_rfl) ?_
  refine SC.seq (by kernel_rfl) ?_
  refine SC.region [0, 1, 2, 3, 4] (by kernel_rfl) (by kernel_rfl) ?_
  refine SL.run (d := 13) (v := .int .i64 ((i : Nat) : Int)) (by kernel_rfl) ?_
  refine SL.run (d := 14) (v := .pointer (some ⟨g1, 2, none⟩)) (by kernel_rfl) ?_
  refine SL.load (d := 15) (t := 23) (a := .pointer (some ⟨g1, 2, none⟩)) (v := .slice xa2 xl2.length xc2) (by kernel_rfl) (M16.ldCell 2 rfl (j := 2) (v := .slice xa2 xl2.length xc2) rfl Try.underlying23 rfl) ?_
  refine SL.builtin (d := 16) (b := .len) (ts := [23]) (ty := 3) (vs := [.slice xa2 xl2.length xc2]) (v := .int .i64 ((xl2.length : Nat) : Int)) (by kernel_rfl) (fun k => run_len Try.underlying23 rfl k) ?_
  rcases Bool.eq_false_or_eq_true (decide (((i : Nat) : Int) < ((xl2.length : Nat) : Int))) with h17 | h17
  · skip
    have ph17 : ((i : Nat) : Int) < ((xl2.length : Nat) : Int) := of_decide_eq_true h17
    refine SL.bool (d := 17) (x := (decide (((i : Nat) : Int) < ((xl2.length : Nat) : Int)))) (y := true) h17 (by kernel_rfl) ?_
    refine SL.nil ?_
    refine SC.next ?_
    refine SC.yes (by kernel_rfl) ?_
    refine SC.skip (by kernel_rfl) ?_
    refine SC.next ?_
    refine SC.seq (by kernel_rfl) ?_
    refine SC.block (i := 1) (by kernel_rfl) ?_
    refine SC.seq (by kernel_rfl) ?_
    refine SC.region [0] (by kernel_rfl) (by kernel_rfl) ?_
    refine SL.run (d := 7) (v := .slice none 0 0) (by kernel_rfl) ?_
    refine SL.nil ?_
    refine SC.next ?_
    refine SC.seq (by kernel_rfl) ?_
    refine SC.seq (by kernel_rfl) ?_
    refine SC.region [0] (by kernel_rfl) (by kernel_rfl) ?_
    refine SL.run (d := 8) (v := .int .i64 0) (by kernel_rfl) ?_
    refine SL.nil ?_
    refine SC.next ?_
    refine SC.block (i := 2) (by kernel_rfl) ?_
    have M18 : Mem w w15 ([rw' none 0 0 4 1 [], rw' ta i tc 95 1 (heads yl2.length rs), bx g5 #[.string yn, .slice ya1 yl1.length yc1, .slice ya2 yl2.length yc2, .slice ya3 yl3.length yc3] 26, bx g1 #[.string xn, .slice xa1 xl1.length xc1, .slice xa2 xl2.length xc2, .slice xa3 xl3.length xc3] 26] ++ rowsR yl2.length rs) := Mem.addNil M16
    refine SC.loopA (X := Nat × Option Addr × Nat) (fun x => [(2, .pointer (some ⟨g1, 0, none⟩)), (3, .pointer (some ⟨g5, 0, none⟩)), (4, .slice none 0 0), (5, .slice ta i tc), (6, .int .i64 ((i : Nat) : Int)), (7, .slice x.2.1 x.1 x.2.2), (8, .int .i64 ((x.1 : Nat) : Int)), (13, .int .i64 ((i : Nat) : Int)), (14, .pointer (some ⟨g1, 2, none⟩)), (15, .slice xa2 xl2.length xc2), (16, .int .i64 ((xl2.length : Nat) : Int)), (17, .bool true)]) (fun x wr => Mem w wr ([rw' x.2.1 x.1 x.2.2 4 1 (List.replicate x.1 (Value.bool true)), rw' ta i tc 95 1 (heads yl2.length rs), bx g5 #[.string yn, .slice ya1 yl1.length yc1, .slice ya2 yl2.length yc2, .slice ya3 yl3.length yc3] 26, bx g1 #[.string xn, .slice xa1 xl1.length xc1, .slice xa2 xl2.length xc2, .slice xa3 xl3.length xc3] 26] ++ rowsR yl2.length rs) ∧ (x.1 ≤ yl2.length)) (fun x => yl2.length - x.1) (PanOk.block (PanOk.seq (PanOk.block (PanOk.seq pn14)))) (by kernel_rfl) ⟨0, none, 0⟩ (by kernel_rfl) ⟨M18, (Nat.zero_le _)⟩ ?_
    rintro ⟨k, ra, rc⟩ w24 ⟨M25, hI19⟩ Q20 ag21 ex22 pn23
    replace M25 : Mem w w24 ([rw' ra k rc 4 1 (List.replicate k (Value.bool true)), rw' ta i tc 95 1 (heads yl2.length rs), bx g5 #[.string yn, .slice ya1 yl1.length yc1, .slice ya2 yl2.length yc2, .slice ya3 yl3.length yc3] 26, bx g1 #[.string xn, .slice xa1 xl1.length xc1, .slice xa2 xl2.length xc2, .slice xa3 xl3.length xc3] 26] ++ rowsR yl2.length rs) := M25
    replace hI19 : k ≤ yl2.length := hI19
    show SC _ _ _ _ _ [(2, .pointer (some ⟨g1, 0, none⟩)), (3, .pointer (some ⟨g5, 0, none⟩)), (4, .slice none 0 0), (5, .slice ta i tc), (6, .int .i64 ((i : Nat) : Int)), (7, .slice ra k rc), (8, .int .i64 ((k : Nat) : Int)), (13, .int .i64 ((i : Nat) : Int)), (14, .pointer (some ⟨g1, 2, none⟩)), (15, .slice xa2 xl2.length xc2), (16, .int .i64 ((xl2.length : Nat) : Int)), (17, .bool true)] _
    have hk := hI19
    refine SC.seq (by kernel_rfl) ?_
    refine SC.seq (by kernel_rfl) ?_
    refine SC.region [0, 1, 2, 3, 4] (by kernel_rfl) (by kernel_rfl) ?_
    refine SL.run (d := 20) (v := .int .i64 ((k : Nat) : Int)) (by kernel_rfl) ?_
    refine SL.run (d := 21) (v := .pointer (some ⟨g5, 2, none⟩)) (by kernel_rfl) ?_
    refine SL.load (d := 22) (t := 23) (a := .pointer (some ⟨g5, 2, none⟩)) (v := .slice ya2 yl2.length yc2) (by kernel_rfl) (M25.ldCell 2 rfl (j := 2) (v := .slice ya2 yl2.length yc2) rfl Try.underlying23 rfl) ?_
    refine SL.builtin (d := 23) (b := .len) (ts := [23]) (ty := 3) (vs := [.slice ya2 yl2.length yc2]) (v := .int .i64 ((yl2.length : Nat) : Int)) (by kernel_rfl) (fun k => run_len Try.underlying23 rfl k) ?_
    rcases Bool.eq_false_or_eq_true (decide (((k : Nat) : Int) < ((yl2.length : Nat) : Int))) with h26 | h26
    · skip
      have ph26 : ((k : Nat) : Int) < ((yl2.length : Nat) : Int) := of_decide_eq_true h26
      refine SL.bool (d := 24) (x := (decide (((k : Nat) : Int) < ((yl2.length : Nat) : Int)))) (y := true) h26 (by kernel_rfl) ?_
      refine SL.nil ?_
      refine SC.next ?_
      refine SC.yes (by kernel_rfl) ?_
      refine SC.skip (by kernel_rfl) ?_
      refine SC.next ?_
      refine SC.seq (by kernel_rfl) ?_
      refine SC.block (i := 3) (by kernel_rfl) ?_
      refine SC.region [0, 1, 2, 3] (by kernel_rfl) (by kernel_rfl) ?_
      refine SL.run (d := 27) (v := .slice ra k rc) (by kernel_rfl) ?_
      refine SL.buildSliceM (d := 28) (t := 95) (e := 4) (len := 1) (size := 1) (z := .bool false) (ps := [(0, .bool true)]) (cs := #[.bool true]) M25 (by kernel_rfl) Try.underlying95 (by kernel_rfl) rfl rfl (by kernel_rfl) ?_
      intro g27 w28 hb29 ⟨bg27, lg27⟩ M30
      refine SL.appendM (d := 29) (ts := [95, 95]) (ty := 95) (vs := [.slice ra k rc, .slice (some ⟨g27, 0, none⟩) 1 1]) (k' := k + 1) (L' := fun a31 c32 => [bx g27 #[.bool true] 4, rw' a31 (k + 1) c32 4 1 ((List.replicate k (Value.bool true)) ++ [.bool true]), rw' ta i tc 95 1 (heads yl2.length rs), bx g5 #[.string yn, .slice ya1 yl1.length yc1, .slice ya2 yl2.length yc2, .slice ya3 yl3.length yc3] 26, bx g1 #[.string xn, .slice xa1 xl1.length xc1, .slice xa2 xl2.length xc2, .slice xa3 xl3.length xc3] 26] ++ rowsR yl2.length rs) (by kernel_rfl) (Mem.append M30 1 rfl (ET.of Try.underlying95 (by kernel_rfl) (by decide) (by decide) : ET Try.prog 95 4 (.bool false) 1 1) (rd_box M30 0 rfl (by kernel_rfl) rfl) rfl (by intro u hu; simp only [List.mem_cons, List.not_mem_nil, or_false] at hu; rcases hu with rfl <;> rfl) (by omega) (by omega) (by omega)) ?_
      intro a31 c32 w33 M34 hk35
      refine SL.run (d := 7) (v := .slice a31 (k + 1) c32) (by kernel_rfl) ?_
      refine SL.nil ?_
      refine SQ.blockNormal ?_
      refine SC.next ?_
      refine SC.region [0, 1, 2] (by kernel_rfl) (by kernel_rfl) ?_
      refine SL.run (d := 25) (v := .int .i64 ((k : Nat) : Int)) (by kernel_rfl) ?_
      refine SL.int (d := 26) (q := .i64) (x := IntKind.wrap .i64 (((k : Nat) : Int) + (1 : Int))) (y := ((k + 1 : Nat) : Int)) (wr64 (by omega) (by omega) (by omega)) (by kernel_rfl) ?_
      refine SL.run (d := 8) (v := .int .i64 ((k + 1 : Nat) : Int)) (by kernel_rfl) ?_
      refine SL.nil ?_
      have M36 := Mem.dropN M34 1 (L' := [rw' a31 (k + 1) c32 4 1 ((List.replicate k (Value.bool true)) ++ [.bool true]), rw' ta i tc 95 1 (heads yl2.length rs), bx g5 #[.string yn, .slice ya1 yl1.length yc1, .slice ya2 yl2.length yc2, .slice ya3 yl3.length yc3] 26, bx g1 #[.string xn, .slice xa1 xl1.length xc1, .slice xa2 xl2.length xc2, .slice xa3 xl3.length xc3] 26] ++ rowsR yl2.length rs) rfl
      have M37 := M36
      rw [show List.replicate k (Value.bool true) ++ [Value.bool true] = List.replicate (k + 1) (Value.bool true) from (List.replicate_succ' ..).symm] at M37
      exact ag21 ⟨k + 1, a31, c32⟩ (by kernel_rfl) ⟨M37, (by omega)⟩ (by first | omega | (dsimp only; omega))
    · skip
      have ph26 : ¬ (((k : Nat) : Int) < ((yl2.length : Nat) : Int)) := of_decide_eq_false h26
      refine SL.bool (d := 24) (x := (decide (((k : Nat) : Int) < ((yl2.length : Nat) : Int)))) (y := false) h26 (by kernel_rfl) ?_
      refine SL.nil ?_
      refine SC.next ?_
      refine SC.no (by kernel_rfl) ?_
      refine SC.exit (i := 2) (by kernel_rfl) ?_
      refine SQ.seqExit (by nofun) ?_
      refine ex22 (by nofun) ?_
      refine SQ.blockHere ?_
      refine SC.next ?_
      refine SC.region [0, 1, 2, 3, 4] (by kernel_rfl) (by kernel_rfl) ?_
      refine SL.run (d := 30) (v := .slice ta i tc) (by kernel_rfl) ?_
      refine SL.run (d := 31) (v := .slice ra k rc) (by kernel_rfl) ?_
      refine SL.buildSliceM (d := 32) (t := 67) (e := 95) (len := 1) (size := 1) (z := .slice none 0 0) (ps := [(0, .slice ra k rc)]) (cs := #[.slice ra k rc]) M25 (by kernel_rfl) Try.underlying67 (by kernel_rfl) rfl rfl (by kernel_rfl) ?_
      intro g38 w39 hb40 ⟨bg38, lg38⟩ M41
      refine SL.appendM (d := 33) (ts := [67, 67]) (ty := 67) (vs := [.slice ta i tc, .slice (some ⟨g38, 0, none⟩) 1 1]) (k' := i + 1) (L' := fun a42 c43 => [bx g38 #[.slice ra k rc] 95, rw' ra k rc 4 1 (List.replicate k (Value.bool true)), rw' a42 (i + 1) c43 95 1 ((heads yl2.length rs) ++ [.slice ra k rc]), bx g5 #[.string yn, .slice ya1 yl1.length yc1, .slice ya2 yl2.length yc2, .slice ya3 yl3.length yc3] 26, bx g1 #[.string xn, .slice xa1 xl1.length xc1, .slice xa2 xl2.length xc2, .slice xa3 xl3.length xc3] 26] ++ rowsR yl2.length rs) (by kernel_rfl) (Mem.append M41 2 rfl (ET.of Try.underlying67 (by kernel_rfl) (by decide) (by decide) : ET Try.prog 67 95 (.slice none 0 0) 1 24) (rd_box M41 0 rfl (by kernel_rfl) rfl) rfl (by intro u hu; simp only [List.mem_cons, List.not_mem_nil, or_false] at hu; rcases hu with rfl <;> rfl) (by omega) (by omega) (by omega)) ?_
      intro a42 c43 w44 M45 hk46
      refine SL.run (d := 5) (v := .slice a42 (i + 1) c43) (by kernel_rfl) ?_
      refine SL.nil ?_
      refine SQ.blockNormal ?_
      refine SC.next ?_
      refine SC.region [0, 1, 2] (by kernel_rfl) (by kernel_rfl) ?_
      refine SL.run (d := 18) (v := .int .i64 ((i : Nat) : Int)) (by kernel_rfl) ?_
      refine SL.int (d := 19) (q := .i64) (x := IntKind.wrap .i64 (((i : Nat) : Int) + (1 : Int))) (y := ((i + 1 : Nat) : Int)) (wr64 (by omega) (by omega) (by omega)) (by kernel_rfl) ?_
      refine SL.run (d := 6) (v := .int .i64 ((i + 1 : Nat) : Int)) (by kernel_rfl) ?_
      refine SL.nil ?_
      obtain rfl : k = yl2.length := by omega
      have M48 := Mem.toEnd (Mem.front M45 1 (L' := [bx g38 #[.slice ra yl2.length rc] 95, rw' a42 (i + 1) c43 95 1 ((heads yl2.length rs) ++ [.slice ra yl2.length rc]), bx g5 #[.string yn, .slice ya1 yl1.length yc1, .slice ya2 yl2.length yc2, .slice ya3 yl3.length yc3] 26, bx g1 #[.string xn, .slice xa1 xl1.length xc1, .slice xa2 xl2.length xc2, .slice xa3 xl3.length xc3] 26] ++ rowsR yl2.length rs) rfl) rfl
      rw [List.append_assoc, rows_snoc (l := List.replicate yl2.length true) (by rw [List.map_replicate])] at M48
      have M49 := Mem.dropN M48 1 (L' := [rw' a42 (i + 1) c43 95 1 ((heads yl2.length rs) ++ [.slice ra yl2.length rc]), bx g5 #[.string yn, .slice ya1 yl1.length yc1, .slice ya2 yl2.length yc2, .slice ya3 yl3.length yc3] 26, bx g1 #[.string xn, .slice xa1 xl1.length xc1, .slice xa2 xl2.length xc2, .slice xa3 xl3.length xc3] 26] ++ rowsR yl2.length (rs ++ [(ra, rc, List.replicate yl2.length true)])) rfl
      have M50 := M49
      rw [show heads yl2.length rs ++ [Value.slice ra yl2.length rc] = heads yl2.length (rs ++ [(ra, rc, List.replicate yl2.length true)]) from by unfold heads; rw [List.map_append]; rfl] at M50
      exact ag12 ⟨i + 1, a42, c43, rs ++ [(ra, rc, List.replicate yl2.length true)]⟩ (by kernel_rfl) ⟨M50, ⟨by omega, by rw [List.length_append, hrl]; rfl, fun q hq => by rcases List.mem_append.1 hq with hq | hq; exact hrt q hq; obtain rfl := List.mem_singleton.1 hq; rfl⟩⟩ (by first | omega | (dsimp only; omega))
  · skip
    have ph17 : ¬ (((i : Nat) : Int) < ((xl2.length : Nat) : Int)) := of_decide_eq_false h17
    refine SL.bool (d := 17) (x := (decide (((i : Nat) : Int) < ((xl2.length : Nat) : Int)))) (y := false) h17 (by kernel_rfl) ?_
    refine SL.nil ?_
    refine SC.next ?_
    refine SC.no (by kernel_rfl) ?_
    refine SC.exit (i := 0) (by kernel_rfl) ?_
    refine SQ.seqExit (by nofun) ?_
    refine ex13 (by nofun) ?_
    refine SQ.blockHere ?_
    refine SC.next ?_
    refine SC.seq (by kernel_rfl) ?_
    refine SC.seq (by kernel_rfl) ?_
    refine SC.region [0] (by kernel_rfl) (by kernel_rfl) ?_
    refine SL.run (d := 9) (v := .int .i64 0) (by kernel_rfl) ?_
    refine SL.nil ?_
    refine SC.next ?_
    refine SC.block (i := 4) (by kernel_rfl) ?_
    obtain rfl : i = xl2.length := by omega
    have hsh : ShapeT DX.types.length DY.types.length rs := ⟨by rw [lx]; exact hrl, fun r hr => by rw [hrt r hr, List.length_replicate, ly]⟩
    have hab : AboveT DX DY rs := above_true hsh (fun r hr => by rw [hrt r hr, ly])
    have hcn := cnt_le hsh
    clear hrl hrt
    refine SC.loopA (X := Nat × List TRow) (fun x => [(2, .pointer (some ⟨g1, 0, none⟩)), (3, .pointer (some ⟨g5, 0, none⟩)), (4, .slice none 0 0), (5, .slice ta xl2.length tc), (9, .int .i64 ((x.1 : Nat) : Int))]) (fun x wr => Mem w wr ([rw' ta xl2.length tc 95 1 (heads yl2.length x.2), bx g5 #[.string yn, .slice ya1 yl1.length yc1, .slice ya2 yl2.length yc2, .slice ya3 yl3.length yc3] 26, bx g1 #[.string xn, .slice xa1 xl1.length xc1, .slice xa2 xl2.length xc2, .slice xa3 xl3.length xc3] 26] ++ rowsR yl2.length x.2) ∧ (AboveT DX DY x.2 ∧ ShapeT DX.types.length DY.types.length x.2 ∧ x.1 + cnt x.2 ≤ DX.types.length * DY.types.length)) (fun x => xl2.length * yl2.length + 1 - x.1) (PanOk.block (PanOk.seq PanOk.body)) (by kernel_rfl) ⟨0, rs⟩ (by kernel_rfl) ⟨M16, ⟨hab, hsh, by dsimp only; omega⟩⟩ ?_
    rintro ⟨r, rs⟩ w56 ⟨M57, hI51⟩ Q52 ag53 ex54 pn55
    replace M57 : Mem w w56 ([rw' ta xl2.length tc 95 1 (heads yl2.length rs), bx g5 #[.string yn, .slice ya1 yl1.length yc1, .slice ya2 yl2.length yc2, .slice ya3 yl3.length yc3] 26, bx g1 #[.string xn, .slice xa1 xl1.length xc1, .slice xa2 xl2.length xc2, .slice xa3 xl3.length xc3] 26] ++ rowsR yl2.length rs) := M57
    replace hI51 : AboveT DX DY rs ∧ ShapeT DX.types.length DY.types.length rs ∧ r + cnt rs ≤ DX.types.length * DY.types.length := hI51
    show SC _ _ _ _ _ [(2, .pointer (some ⟨g1, 0, none⟩)), (3, .pointer (some ⟨g5, 0, none⟩)), (4, .slice none 0 0), (5, .slice ta xl2.length tc), (9, .int .i64 ((r : Nat) : Int))] _
    obtain ⟨hab, hsh, hcn⟩ := hI51
    have hmul : (((xl2.length : Nat) : Int) * ((yl2.length : Nat) : Int)) = ((xl2.length * yl2.length : Nat) : Int) := by rw [Int.natCast_mul]
    have hmx : xl2.length * yl2.length ≤ 1000 * 1000 := Nat.mul_le_mul bx1 by1
    rw [lx, ly] at hcn
    refine SC.seq (by kernel_rfl) ?_
    refine SC.seq (by kernel_rfl) ?_
    refine SC.region [0, 1, 2, 3, 4, 5, 6, 7, 8] (by kernel_rfl) (by kernel_rfl) ?_
    refine SL.run (d := 34) (v := .int .i64 ((r : Nat) : Int)) (by kernel_rfl) ?_
    refine SL.run (d := 35) (v := .pointer (some ⟨g1, 2, none⟩)) (by kernel_rfl) ?_
    refine SL.load (d := 36) (t := 23) (a := .pointer (some ⟨g1, 2, none⟩)) (v := .slice xa2 xl2.length xc2) (by kernel_rfl) (M57.ldCell 2 rfl (j := 2) (v := .slice xa2 xl2.length xc2) rfl Try.underlying23 rfl) ?_
    refine SL.builtin (d := 37) (b := .len) (ts := [23]) (ty := 3) (vs := [.slice xa2 xl2.length xc2]) (v := .int .i64 ((xl2.length : Nat) : Int)) (by kernel_rfl) (fun k => run_len Try.underlying23 rfl k) ?_
    refine SL.run (d := 38) (v := .pointer (some ⟨g5, 2, none⟩)) (by kernel_rfl) ?_
    refine SL.load (d := 39) (t := 23) (a := .pointer (some ⟨g5, 2, none⟩)) (v := .slice ya2 yl2.length yc2) (by kernel_rfl) (M57.ldCell 1 rfl (j := 2) (v := .slice ya2 yl2.length yc2) rfl Try.underlying23 rfl) ?_
    refine SL.builtin (d := 40) (b := .len) (ts := [23]) (ty := 3) (vs := [.slice ya2 yl2.length yc2]) (v := .int .i64 ((yl2.length : Nat) : Int)) (by kernel_rfl) (fun k => run_len Try.underlying23 rfl k) ?_
    refine SL.int (d := 41) (q := .i64) (x := IntKind.wrap .i64 (((xl2.length : Nat) : Int) * ((yl2.length : Nat) : Int))) (y := ((xl2.length * yl2.length : Nat) : Int)) (wr64 (by omega) (by omega) (by omega)) (by kernel_rfl) ?_
    rcases Bool.eq_false_or_eq_true (decide (((r : Nat) : Int) ≤ ((xl2.length * yl2.length : Nat) : Int))) with h58 | h58
    · skip
      have ph58 : ((r : Nat) : Int) ≤ ((xl2.length * yl2.length : Nat) : Int) := of_decide_eq_true h58
      refine SL.bool (d := 42) (x := (decide (((r : Nat) : Int) ≤ ((xl2.length * yl2.length : Nat) : Int)))) (y := true) h58 (by kernel_rfl) ?_
      refine SL.nil ?_
      refine SC.next ?_
      refine SC.yes (by kernel_rfl) ?_
      refine SC.skip (by kernel_rfl) ?_
      refine SC.next ?_
      refine SC.seq (by kernel_rfl) ?_
      refine SC.block (i := 5) (by kernel_rfl) ?_
      refine SC.seq (by kernel_rfl) ?_
      refine SC.region [0] (by kernel_rfl) (by kernel_rfl) ?_
      refine SL.run (d := 10) (v := .bool false) (by kernel_rfl) ?_
      refine SL.nil ?_
      refine SC.next ?_
      refine SC.seq (by kernel_rfl) ?_
      refine SC.seq (by kernel_rfl) ?_
      refine SC.region [0] (by kernel_rfl) (by kernel_rfl) ?_
      refine SL.run (d := 11) (v := .int .i64 0) (by kernel_rfl) ?_
      refine SL.nil ?_
      refine SC.next ?_
      refine SC.block (i := 6) (by kernel_rfl) ?_
      obtain ⟨c0, hc0⟩ : ∃ c, c = cnt rs := ⟨_, rfl⟩
      have hr3 := round_start hab hsh
      rw [← hc0] at hr3 hcn
      refine SC.loopA (X := Nat × List TRow × Bool) (fun x => [(2, .pointer (some ⟨g1, 0, none⟩)), (3, .pointer (some ⟨g5, 0, none⟩)), (4, .slice none 0 0), (5, .slice ta xl2.length tc), (9, .int .i64 ((r : Nat) : Int)), (10, .bool x.2.2), (11, .int .i64 ((x.1 : Nat) : Int)), (34, .int .i64 ((r : Nat) : Int)), (35, .pointer (some ⟨g1, 2, none⟩)), (36, .slice xa2 xl2.length xc2), (37, .int .i64 ((xl2.length : Nat) : Int)), (38, .pointer (some ⟨g5, 2, none⟩)), (39, .slice ya2 yl2.length yc2), (40, .int .i64 ((yl2.length : Nat) : Int)), (41, .int .i64 ((xl2.length * yl2.length : Nat) : Int)), (42, .bool true)]) (fun x wr => Mem w wr ([rw' ta xl2.length tc 95 1 (heads yl2.length x.2.1), bx g5 #[.string yn, .slice ya1 yl1.length yc1, .slice ya2 yl2.length yc2, .slice ya3 yl3.length yc3] 26, bx g1 #[.string xn, .slice xa1 xl1.length xc1, .slice xa2 xl2.length xc2, .slice xa3 xl3.length xc3] 26] ++ rowsR yl2.length x.2.1) ∧ (x.1 ≤ xl2.length ∧ RoundT DX DY c0 x.2.1 x.2.2 x.1 0)) (fun x => xl2.length - x.1) (PanOk.block (PanOk.seq (PanOk.block (PanOk.seq pn55)))) (by kernel_rfl) ⟨0, rs, false⟩ (by kernel_rfl) ⟨M57, ⟨Nat.zero_le _, hr3⟩⟩ ?_
      rintro ⟨i2, rs2, ch2⟩ w64 ⟨M65, hI59⟩ Q60 ag61 ex62 pn63
      replace M65 : Mem w w64 ([rw' ta xl2.length tc 95 1 (heads yl2.length rs2), bx g5 #[.string yn, .slice ya1 yl1.length yc1, .slice ya2 yl2.length yc2, .slice ya3 yl3.length yc3] 26, bx g1 #[.string xn, .slice xa1 xl1.length xc1, .slice xa2 xl2.length xc2, .slice xa3 xl3.length xc3] 26] ++ rowsR yl2.length rs2) := M65
      replace hI59 : i2 ≤ xl2.length ∧ RoundT DX DY c0 rs2 ch2 i2 0 := hI59
      show SC _ _ _ _ _ [(2, .pointer (some ⟨g1, 0, none⟩)), (3, .pointer (some ⟨g5, 0, none⟩)), (4, .slice none 0 0), (5, .slice ta xl2.length tc), (9, .int .i64 ((r : Nat) : Int)), (10, .bool ch2), (11, .int .i64 ((i2 : Nat) : Int)), (34, .int .i64 ((r : Nat) : Int)), (35, .pointer (some ⟨g1, 2, none⟩)), (36, .slice xa2 xl2.length xc2), (37, .int .i64 ((xl2.length : Nat) : Int)), (38, .pointer (some ⟨g5, 2, none⟩)), (39, .slice ya2 yl2.length yc2), (40, .int .i64 ((yl2.length : Nat) : Int)), (41, .int .i64 ((xl2.length * yl2.length : Nat) : Int)), (42, .bool true)] _
      obtain ⟨hi, hr2⟩ := hI59
      refine SC.seq (by kernel_rfl) ?_
      refine SC.seq (by kernel_rfl) ?_
      refine SC.region [0, 1, 2, 3, 4] (by kernel_rfl) (by kernel_rfl) ?_
      refine SL.run (d := 45) (v := .int .i64 ((i2 : Nat) : Int)) (by kernel_rfl) ?_
      refine SL.run (d := 46) (v := .pointer (some ⟨g1, 2, none⟩)) (by kernel_rfl) ?_
      refine SL.load (d := 47) (t := 23) (a := .pointer (some ⟨g1, 2, none⟩)) (v := .slice xa2 xl2.length xc2) (by kernel_rfl) (M65.ldCell 2 rfl (j := 2) (v := .slice xa2 xl2.length xc2) rfl Try.underlying23 rfl) ?_
      refine SL.builtin (d := 48) (b := .len) (ts := [23]) (ty := 3) (vs := [.slice xa2 xl2.length xc2]) (v := .int .i64 ((xl2.length : Nat) : Int)) (by kernel_rfl) (fun k => run_len Try.underlying23 rfl k) ?_
      rcases Bool.eq_false_or_eq_true (decide (((i2 : Nat) : Int) < ((xl2.length : Nat) : Int))) with h66 | h66
      · skip
        have ph66 : ((i2 : Nat) : Int) < ((xl2.length : Nat) : Int) := of_decide_eq_true h66
        refine SL.bool (d := 49) (x := (decide (((i2 : Nat) : Int) < ((xl2.length : Nat) : Int)))) (y := true) h66 (by kernel_rfl) ?_
        refine SL.nil ?_
        refine SC.next ?_
        refine SC.yes (by kernel_rfl) ?_
        refine SC.skip (by kernel_rfl) ?_
        refine SC.next ?_
        refine SC.seq (by kernel_rfl) ?_
        refine SC.block (i := 7) (by kernel_rfl) ?_
        refine SC.seq (by kernel_rfl) ?_
        refine SC.region [0] (by kernel_rfl) (by kernel_rfl) ?_
        refine SL.run (d := 12) (v := .int .i64 0) (by kernel_rfl) ?_
        refine SL.nil ?_
        refine SC.next ?_
        refine SC.block (i := 8) (by kernel_rfl) ?_
        refine SC.loopA (X := Nat × List TRow × Bool) (fun x => [(2, .pointer (some ⟨g1, 0, none⟩)), (3, .pointer (some ⟨g5, 0, none⟩)), (4, .slice none 0 0), (5, .slice ta xl2.length tc), (9, .int .i64 ((r : Nat) : Int)), (10, .bool x.2.2), (11, .int .i64 ((i2 : Nat) : Int)), (12, .int .i64 ((x.1 : Nat) : Int)), (34, .int .i64 ((r : Nat) : Int)), (35, .pointer (some ⟨g1, 2, none⟩)), (36, .slice xa2 xl2.length xc2), (37, .int .i64 ((xl2.length : Nat) : Int)), (38, .pointer (some ⟨g5, 2, none⟩)), (39, .slice ya2 yl2.length yc2), (40, .int .i64 ((yl2.length : Nat) : Int)), (41, .int .i64 ((xl2.length * yl2.length : Nat) : Int)), (42, .bool true), (45, .int .i64 ((i2 : Nat) : Int)), (46, .pointer (some ⟨g1, 2, none⟩)), (47, .slice xa2 xl2.length xc2), (48, .int .i64 ((xl2.length : Nat) : Int)), (49, .bool true)]) (fun x wr => Mem w wr ([rw' ta xl2.length tc 95 1 (heads yl2.length x.2.1), bx g5 #[.string yn, .slice ya1 yl1.length yc1, .slice ya2 yl2.length yc2, .slice ya3 yl3.length yc3] 26, bx g1 #[.string xn, .slice xa1 xl1.length xc1, .slice xa2 xl2.length xc2, .slice xa3 xl3.length xc3] 26] ++ rowsR yl2.length x.2.1) ∧ (x.1 ≤ yl2.length ∧ RoundT DX DY c0 x.2.1 x.2.2 i2 x.1)) (fun x => yl2.length - x.1) (PanOk.block (PanOk.block (PanOk.seq pn63))) (by kernel_rfl) ⟨0, rs2, ch2⟩ (by kernel_rfl) ⟨M65, ⟨Nat.zero_le _, hr2⟩⟩ ?_
        rintro ⟨k2, rs3, ch3⟩ w72 ⟨M73, hI67⟩ Q68 ag69 ex70 pn71
        replace M73 : Mem w w72 ([rw' ta xl2.length tc 95 1 (heads yl2.length rs3), bx g5 #[.string yn, .slice ya1 yl1.length yc1, .slice ya2 yl2.length yc2, .slice ya3 yl3.length yc3] 26, bx g1 #[.string xn, .slice xa1 xl1.length xc1, .slice xa2 xl2.length xc2, .slice xa3 xl3.length xc3] 26] ++ rowsR yl2.length rs3) := M73
        replace hI67 : k2 ≤ yl2.length ∧ RoundT DX DY c0 rs3 ch3 i2 k2 := hI67
        show SC _ _ _ _ _ [(2, .pointer (some ⟨g1, 0, none⟩)), (3, .pointer (some ⟨g5, 0, none⟩)), (4, .slice none 0 0), (5, .slice ta xl2.length tc), (9, .int .i64 ((r : Nat) : Int)), (10, .bool ch3), (11, .int .i64 ((i2 : Nat) : Int)), (12, .int .i64 ((k2 : Nat) : Int)), (34, .int .i64 ((r : Nat) : Int)), (35, .pointer (some ⟨g1, 2, none⟩)), (36, .slice xa2 xl2.length xc2), (37, .int .i64 ((xl2.length : Nat) : Int)), (38, .pointer (some ⟨g5, 2, none⟩)), (39, .slice ya2 yl2.length yc2), (40, .int .i64 ((yl2.length : Nat) : Int)), (41, .int .i64 ((xl2.length * yl2.length : Nat) : Int)), (42, .bool true), (45, .int .i64 ((i2 : Nat) : Int)), (46, .pointer (some ⟨g1, 2, none⟩)), (47, .slice xa2 xl2.length xc2), (48, .int .i64 ((xl2.length : Nat) : Int)), (49, .bool true)] _
        obtain ⟨hk, hr5⟩ := hI67
        refine SC.seq (by kernel_rfl) ?_
        refine SC.seq (by kernel_rfl) ?_
        refine SC.region [0, 1, 2, 3, 4] (by kernel_rfl) (by kernel_rfl) ?_
        refine SL.run (d := 52) (v := .int .i64 ((k2 : Nat) : Int)) (by kernel_rfl) ?_
        refine SL.run (d := 53) (v := .pointer (some ⟨g5, 2, none⟩)) (by kernel_rfl) ?_
        refine SL.load (d := 54) (t := 23) (a := .pointer (some ⟨g5, 2, none⟩)) (v := .slice ya2 yl2.length yc2) (by kernel_rfl) (M73.ldCell 1 rfl (j := 2) (v := .slice ya2 yl2.length yc2) rfl Try.underlying23 rfl) ?_
        refine SL.builtin (d := 55) (b := .len) (ts := [23]) (ty := 3) (vs := [.slice ya2 yl2.length yc2]) (v := .int .i64 ((yl2.length : Nat) : Int)) (by kernel_rfl) (fun k => run_len Try.underlying23 rfl k) ?_
        rcases Bool.eq_false_or_eq_true (decide (((k2 : Nat) : Int) < ((yl2.length : Nat) : Int))) with h74 | h74
        · skip
          have ph74 : ((k2 : Nat) : Int) < ((yl2.length : Nat) : Int) := of_decide_eq_true h74
          obtain ⟨ra, rc, rl, bb, hrow, hbb, hrl⟩ := shape_get hr5.2.1 (i := i2) (k := k2) (by rw [lx]; omega) (by rw [ly]; omega)
          rw [ly] at hrl
          obtain ⟨tg, rfl, _, _⟩ := own_open (M73.get 0 rfl : Go.World.ownsRow w72 0 95 1 (.slice ta xl2.length tc) xl2.length (heads yl2.length rs3)) (by omega)
          obtain ⟨rg, rfl⟩ := row_open (A := [rw' (some ⟨tg, 0, none⟩) xl2.length tc 95 1 (heads yl2.length rs3), bx g5 #[.string yn, .slice ya1 yl1.length yc1, .slice ya2 yl2.length yc2, .slice ya3 yl3.length yc3] 26, bx g1 #[.string xn, .slice xa1 xl1.length xc1, .slice xa2 xl2.length xc2, .slice xa3 xl3.length xc3] 26]) M73 hrow (by omega)
          have hhd : (heads yl2.length rs3)[i2]? = some (.slice (some ⟨rg, 0, none⟩) yl2.length rc) := by unfold heads; rw [List.getElem?_map, hrow]; rfl
          obtain ⟨ub, uo, ⟨uf, ul, us, ⟨um, ui⟩, ⟨ufa, ufc, ufl⟩⟩, rfl, hub, hu, huok, huc⟩ := Rows.elem (hx.types : Rows ftD w ⟨xa2, xc2, xl2⟩) (i := i2) (by omega)
          obtain ⟨vb, vo, ⟨vf, vl, vs, ⟨vm, vi⟩, ⟨vfa, vfc, vfl⟩⟩, rfl, hvb, hv, hvok, hvc⟩ := Rows.elem (hy.types : Rows ftD w ⟨ya2, yc2, yl2⟩) (i := k2) (by omega)
          cases bb
          · skip
            have hr6 := round_keep hr5 (fun q => by rw [tbl_of hrow hbb] at q; cases q)
            refine SL.bool (d := 56) (x := (decide (((k2 : Nat) : Int) < ((yl2.length : Nat) : Int)))) (y := true) h74 (by kernel_rfl) ?_
            refine SL.nil ?_
            refine SC.next ?_
            refine SC.yes (by kernel_rfl) ?_
            refine SC.skip (by kernel_rfl) ?_
            refine SC.next ?_
            refine SC.seq (by kernel_rfl) ?_
            refine SC.block (i := 9) (by kernel_rfl) ?_
            refine SC.seq (by kernel_rfl) ?_
            refine SC.mix [([0, 1, 2, 3, 4, 5, 6, 7, 8, 9, 10, 11, 12, 13, 14, 15, 16, 17, 18, 19, 20], 21)] [22, 23] (by kernel_rfl) (by kernel_rfl) (by kernel_rfl) (PanOk.seq (PanOk.block (PanOk.seq pn71))) ?_
            intro w75 hb76
            have M77 := M73.call hb76
            refine SM.step ?_
            refine SU.run (d := 59) (v := .slice (some ⟨tg, 0, none⟩) xl2.length tc) (fun y hy => by kernel_rfl) ?_
            refine SU.run (d := 60) (v := .int .i64 ((i2 : Nat) : Int)) (fun y hy => by kernel_rfl) ?_
            refine SU.index (d := 61) (t := 67) (e := 95) (b := tg) (o := 0) (len := xl2.length) (cap := tc) (sz := 1) (k := .i64) (m := ((i2 : Nat) : Int)) i2 (by kernel_rfl) Try.underlying67 (by kernel_rfl) rfl (by omega) ?_
            refine SU.load (d := 62) (t := 95) (b := .pointer (some ⟨tg, 0 + i2 * 1, none⟩)) (v := .slice (some ⟨rg, 0, none⟩) yl2.length rc) (by kernel_rfl) (fun y hy => (Mem.ldRow (M77.call hy) 0 rfl i2 hhd Try.underlying95 rfl (by omega))) ?_
            refine SU.run (d := 63) (v := .int .i64 ((k2 : Nat) : Int)) (fun y hy => by kernel_rfl) ?_
            refine SU.index (d := 64) (t := 95) (e := 4) (b := rg) (o := 0) (len := yl2.length) (cap := rc) (sz := 1) (k := .i64) (m := ((k2 : Nat) : Int)) k2 (by kernel_rfl) Try.underlying95 (by kernel_rfl) rfl (by omega) ?_
            refine SU.load (d := 65) (t := 4) (b := .pointer (some ⟨rg, 0 + k2 * 1, none⟩)) (v := .bool false) (by kernel_rfl) (fun y hy => (row_load (A := [rw' (some ⟨tg, 0, none⟩) xl2.length tc 95 1 (heads yl2.length rs3), bx g5 #[.string yn, .slice ya1 yl1.length yc1, .slice (some ⟨vb, vo, none⟩) yl2.length yc2, .slice ya3 yl3.length yc3] 26, bx g1 #[.string xn, .slice xa1 xl1.length xc1, .slice (some ⟨ub, uo, none⟩) xl2.length xc2, .slice xa3 xl3.length xc3] 26]) (M77.call hy) hrow hbb Try.underlying4 rfl (by omega))) ?_
            refine SU.run (d := 66) (v := .bool false) (fun y hy => by kernel_rfl) ?_
            refine SU.offs [8, 9, 10, 11, 12, 13, 14, 15, 16, 17, 18, 19, 20] (qs := []) rfl (by kernel_rfl) ?_
            refine SU.go ?_
            refine SL.offs [21] (is := []) rfl (by kernel_rfl) ?_
            refine SL.nil ?_
            refine SM.back (Below.refl _ _) ?_
            refine SM.last ?_
            refine SU.offs [22] (qs := [23]) rfl (by kernel_rfl) ?_
            refine SU.pick (d := 82) (v := .bool false) (by kernel_rfl) ?_
            refine SU.done ?_
            refine SC.next ?_
            refine SC.no (by kernel_rfl) ?_
            refine SC.skip (by kernel_rfl) ?_
            refine SQ.blockNormal ?_
            refine SC.next ?_
            refine SC.region [0, 1, 2] (by kernel_rfl) (by kernel_rfl) ?_
            refine SL.run (d := 57) (v := .int .i64 ((k2 : Nat) : Int)) (by kernel_rfl) ?_
            refine SL.int (d := 58) (q := .i64) (x := IntKind.wrap .i64 (((k2 : Nat) : Int) + (1 : Int))) (y := ((k2 + 1 : Nat) : Int)) (wr64 (by omega) (by omega) (by omega)) (by kernel_rfl) ?_
            refine SL.run (d := 12) (v := .int .i64 ((k2 + 1 : Nat) : Int)) (by kernel_rfl) ?_
            refine SL.nil ?_
            exact ag69 ⟨k2 + 1, rs3, ch3⟩ (by kernel_rfl) ⟨M77, ⟨by omega, hr6⟩⟩ (by first | omega | (dsimp only; omega))
          · skip
            refine SL.bool (d := 56) (x := (decide (((k2 : Nat) : Int) < ((yl2.length : Nat) : Int)))) (y := true) h74 (by kernel_rfl) ?_
            refine SL.nil ?_
            refine SC.next ?_
            refine SC.yes (by kernel_rfl) ?_
            refine SC.skip (by kernel_rfl) ?_
            refine SC.next ?_
            refine SC.seq (by kernel_rfl) ?_
            refine SC.block (i := 9) (by kernel_rfl) ?_
            refine SC.seq (by kernel_rfl) ?_
            refine SC.mix [([0, 1, 2, 3, 4, 5, 6, 7, 8, 9, 10, 11, 12, 13, 14, 15, 16, 17, 18, 19, 20], 21)] [22, 23] (by kernel_rfl) (by kernel_rfl) (by kernel_rfl) (PanOk.seq (PanOk.block (PanOk.seq pn71))) ?_
            intro w78 hb79
            have M80 := M73.call hb79
            refine SM.step ?_
            refine SU.run (d := 59) (v := .slice (some ⟨tg, 0, none⟩) xl2.length tc) (fun y hy => by kernel_rfl) ?_
            refine SU.run (d := 60) (v := .int .i64 ((i2 : Nat) : Int)) (fun y hy => by kernel_rfl) ?_
            refine SU.index (d := 61) (t := 67) (e := 95) (b := tg) (o := 0) (len := xl2.length) (cap := tc) (sz := 1) (k := .i64) (m := ((i2 : Nat) : Int)) i2 (by kernel_rfl) Try.underlying67 (by kernel_rfl) rfl (by omega) ?_
            refine SU.load (d := 62) (t := 95) (b := .pointer (some ⟨tg, 0 + i2 * 1, none⟩)) (v := .slice (some ⟨rg, 0, none⟩) yl2.length rc) (by kernel_rfl) (fun y hy => (Mem.ldRow (M80.call hy) 0 rfl i2 hhd Try.underlying95 rfl (by omega))) ?_
            refine SU.run (d := 63) (v := .int .i64 ((k2 : Nat) : Int)) (fun y hy => by kernel_rfl) ?_
            refine SU.index (d := 64) (t := 95) (e := 4) (b := rg) (o := 0) (len := yl2.length) (cap := rc) (sz := 1) (k := .i64) (m := ((k2 : Nat) : Int)) k2 (by kernel_rfl) Try.underlying95 (by kernel_rfl) rfl (by omega) ?_
            refine SU.load (d := 65) (t := 4) (b := .pointer (some ⟨rg, 0 + k2 * 1, none⟩)) (v := .bool true) (by kernel_rfl) (fun y hy => (row_load (A := [rw' (some ⟨tg, 0, none⟩) xl2.length tc 95 1 (heads yl2.length rs3), bx g5 #[.string yn, .slice ya1 yl1.length yc1, .slice (some ⟨vb, vo, none⟩) yl2.length yc2, .slice ya3 yl3.length yc3] 26, bx g1 #[.string xn, .slice xa1 xl1.length xc1, .slice (some ⟨ub, uo, none⟩) xl2.length xc2, .slice xa3 xl3.length xc3] 26]) (M80.call hy) hrow hbb Try.underlying4 rfl (by omega))) ?_
            refine SU.run (d := 66) (v := .bool true) (fun y hy => by kernel_rfl) ?_
            refine SU.load (d := 67) (t := 26) (b := .pointer (some ⟨g1, 0, none⟩)) (v := .agg #[.string xn, .slice xa1 xl1.length xc1, .slice (some ⟨ub, uo, none⟩) xl2.length xc2, .slice xa3 xl3.length xc3]) (by kernel_rfl) (fun y hy => ((M80.call hy).ldBox 2 rfl Try.underlying26 rfl (by kernel_rfl))) ?_
            refine SU.run (d := 68) (v := .pointer (some ⟨g1, 2, none⟩)) (fun y hy => by kernel_rfl) ?_
            refine SU.load (d := 69) (t := 23) (b := .pointer (some ⟨g1, 2, none⟩)) (v := .slice (some ⟨ub, uo, none⟩) xl2.length xc2) (by kernel_rfl) (fun y hy => ((M80.call hy).ldCell 2 rfl (j := 2) (v := .slice (some ⟨ub, uo, none⟩) xl2.length xc2) rfl Try.underlying23 rfl)) ?_
            refine SU.run (d := 70) (v := .int .i64 ((i2 : Nat) : Int)) (fun y hy => by kernel_rfl) ?_
            refine SU.index (d := 71) (t := 23) (e := 53) (b := ub) (o := uo) (len := xl2.length) (cap := xc2) (sz := 6) (k := .i64) (m := ((i2 : Nat) : Int)) i2 (by kernel_rfl) Try.underlying23 (by kernel_rfl) rfl (by omega) ?_
            refine SU.load (d := 72) (t := 53) (b := .pointer (some ⟨ub, uo + i2 * 6, none⟩)) (v := .agg #[.int .i64 uf, .int .i64 ul, .int .i64 us, .int .i64 um, .int .i64 ui, .slice ufa ufl.length ufc]) (by kernel_rfl) (fun y hy => (ld_mid (cs := [.int .i64 uf, .int .i64 ul, .int .i64 us, .int .i64 um, .int .i64 ui, .slice ufa ufl.length ufc]) (fun j v hv => (M80.call hy).old hub (huc j v hv)) Try.underlying53 rfl (by kernel_rfl) rfl)) ?_
            refine SU.load (d := 73) (t := 26) (b := .pointer (some ⟨g5, 0, none⟩)) (v := .agg #[.string yn, .slice ya1 yl1.length yc1, .slice (some ⟨vb, vo, none⟩) yl2.length yc2, .slice ya3 yl3.length yc3]) (by kernel_rfl) (fun y hy => ((M80.call hy).ldBox 1 rfl Try.underlying26 rfl (by kernel_rfl))) ?_
            refine SU.run (d := 74) (v := .pointer (some ⟨g5, 2, none⟩)) (fun y hy => by kernel_rfl) ?_
            refine SU.load (d := 75) (t := 23) (b := .pointer (some ⟨g5, 2, none⟩)) (v := .slice (some ⟨vb, vo, none⟩) yl2.length yc2) (by kernel_rfl) (fun y hy => ((M80.call hy).ldCell 1 rfl (j := 2) (v := .slice (some ⟨vb, vo, none⟩) yl2.length yc2) rfl Try.underlying23 rfl)) ?_
            refine SU.run (d := 76) (v := .int .i64 ((k2 : Nat) : Int)) (fun y hy => by kernel_rfl) ?_
            refine SU.index (d := 77) (t := 23) (e := 53) (b := vb) (o := vo) (len := yl2.length) (cap := yc2) (sz := 6) (k := .i64) (m := ((k2 : Nat) : Int)) k2 (by kernel_rfl) Try.underlying23 (by kernel_rfl) rfl (by omega) ?_
            refine SU.load (d := 78) (t := 53) (b := .pointer (some ⟨vb, vo + k2 * 6, none⟩)) (v := .agg #[.int .i64 vf, .int .i64 vl, .int .i64 vs, .int .i64 vm, .int .i64 vi, .slice vfa vfl.length vfc]) (by kernel_rfl) (fun y hy => (ld_mid (cs := [.int .i64 vf, .int .i64 vl, .int .i64 vs, .int .i64 vm, .int .i64 vi, .slice vfa vfl.length vfc]) (fun j v hv => (M80.call hy).old hvb (hvc j v hv)) Try.underlying53 rfl (by kernel_rfl) rfl)) ?_
            refine SU.run (d := 79) (v := .slice (some ⟨tg, 0, none⟩) xl2.length tc) (fun y hy => by kernel_rfl) ?_
            refine SU.go ?_
            refine SL.call (d := 80) (f := 47) (vs := [.agg #[.string xn, .slice xa1 xl1.length xc1, .slice (some ⟨ub, uo, none⟩) xl2.length xc2, .slice xa3 xl3.length xc3], .agg #[.int .i64 uf, .int .i64 ul, .int .i64 us, .int .i64 um, .int .i64 ui, .slice ufa ufl.length ufc], .agg #[.string yn, .slice ya1 yl1.length yc1, .slice (some ⟨vb, vo, none⟩) yl2.length yc2, .slice ya3 yl3.length yc3], .agg #[.int .i64 vf, .int .i64 vl, .int .i64 vs, .int .i64 vm, .int .i64 vi, .slice vfa vfl.length vfc], .slice (some ⟨tg, 0, none⟩) xl2.length tc]) (by kernel_rfl) (by kernel_rfl) (rforms_walk (x := ⟨xn, ⟨xa1, xc1, xl1⟩, ⟨some ⟨ub, uo, none⟩, xc2, xl2⟩, ⟨xa3, xc3, xl3⟩⟩) (y := ⟨yn, ⟨ya1, yc1, yl1⟩, ⟨some ⟨vb, vo, none⟩, yc2, yl2⟩, ⟨ya3, yc3, yl3⟩⟩) (u := ⟨uf, ul, us, ⟨um, ui⟩, ⟨ufa, ufc, ufl⟩⟩) (v := ⟨vf, vl, vs, ⟨vm, vi⟩, ⟨vfa, vfc, vfl⟩⟩) (ta := some ⟨tg, 0, none⟩) (m := xl2.length) (tc := tc) (n := yl2.length) (T := tbl rs3) (w := w78) (hx.bel M80.bel) (hy.bel M80.bel) (ftD.below huok M80.bel (Nat.le_refl _)) (ftD.below hvok M80.bel (Nat.le_refl _)) (fx _ (List.mem_of_getElem? hu)) (fy _ (List.mem_of_getElem? hv)) (tb_rd M80 (by rw [← lx, ← ly]; exact hr5.2.1))) ?_
            rintro e w81 ⟨R84, rfl, hR85, hb82⟩
            refine ⟨_, rfl, ?_⟩
            have M83 := M80.call hb82
            cases R84
            · skip
              have phR85 : ¬ (formsP (⟨xn, ⟨xa1, xc1, xl1⟩, ⟨some ⟨ub, uo, none⟩, xc2, xl2⟩, ⟨xa3, xc3, xl3⟩⟩ : Fc).d (⟨yn, ⟨ya1, yc1, yl1⟩, ⟨some ⟨vb, vo, none⟩, yc2, yl2⟩, ⟨ya3, yc3, yl3⟩⟩ : Fc).d (fun i k => tbl rs3 i k = true) (⟨uf, ul, us, ⟨um, ui⟩, ⟨ufa, ufc, ufl⟩⟩ : FT).d (⟨vf, vl, vs, ⟨vm, vi⟩, ⟨vfa, vfc, vfl⟩⟩ : FT).d) := fun q => Bool.noConfusion (hR85.2 q)
              have hr6 := round_strike hr5 hrow hbb (fun ⟨x1, y1, q1, q2, q3⟩ => by
                rw [hDX] at q1; rw [hDY] at q2
                have e1 := Option.some.inj (q1.symm.trans (types_get hu))
                have e2 := Option.some.inj (q2.symm.trans (types_get hv))
                subst e1; subst e2
                rw [hDX, hDY] at q3
                exact phR85 q3)
              refine SL.nil ?_
              refine SM.back hb82 ?_
              refine SM.last ?_
              refine SU.run (d := 81) (v := .bool true) (fun y hy => by kernel_rfl) ?_
              refine SU.pick (d := 82) (v := .bool true) (by kernel_rfl) ?_
              refine SU.done ?_
              refine SC.next ?_
              refine SC.yes (by kernel_rfl) ?_
              refine SC.region [0, 1, 2, 3, 4, 5, 6, 7] (by kernel_rfl) (by kernel_rfl) ?_
              refine SL.run (d := 83) (v := .slice (some ⟨tg, 0, none⟩) xl2.length tc) (by kernel_rfl) ?_
              refine SL.run (d := 84) (v := .int .i64 ((i2 : Nat) : Int)) (by kernel_rfl) ?_
              refine SL.index (d := 85) (t := 67) (e := 95) (b := tg) (o := 0) (len := xl2.length) (cap := tc) (sz := 1) (k := .i64) (m := ((i2 : Nat) : Int)) i2 (by kernel_rfl) Try.underlying67 (by kernel_rfl) rfl (by omega) ?_
              refine SL.load (d := 86) (t := 95) (a := .pointer (some ⟨tg, 0 + i2 * 1, none⟩)) (v := .slice (some ⟨rg, 0, none⟩) yl2.length rc) (by kernel_rfl) (Mem.ldRow M83 0 rfl i2 hhd Try.underlying95 rfl (by omega)) ?_
              refine SL.run (d := 87) (v := .int .i64 ((k2 : Nat) : Int)) (by kernel_rfl) ?_
              refine SL.index (d := 88) (t := 95) (e := 4) (b := rg) (o := 0) (len := yl2.length) (cap := rc) (sz := 1) (k := .i64) (m := ((k2 : Nat) : Int)) k2 (by kernel_rfl) Try.underlying95 (by kernel_rfl) rfl (by omega) ?_
              refine SL.storeM (t := 4) (a := .pointer (some ⟨rg, 0 + k2 * 1, none⟩)) (v := .bool false) (L' := [rw' (some ⟨tg, 0, none⟩) xl2.length tc 95 1 (heads yl2.length rs3), bx g5 #[.string yn, .slice ya1 yl1.length yc1, .slice (some ⟨vb, vo, none⟩) yl2.length yc2, .slice ya3 yl3.length yc3] 26, bx g1 #[.string xn, .slice xa1 xl1.length xc1, .slice (some ⟨ub, uo, none⟩) xl2.length xc2, .slice xa3 xl3.length xc3] 26] ++ rowsR yl2.length (rs3.set i2 (some ⟨rg, 0, none⟩, rc, rl.set k2 false))) (by kernel_rfl) (row_store (A := [rw' (some ⟨tg, 0, none⟩) xl2.length tc 95 1 (heads yl2.length rs3), bx g5 #[.string yn, .slice ya1 yl1.length yc1, .slice (some ⟨vb, vo, none⟩) yl2.length yc2, .slice ya3 yl3.length yc3] 26, bx g1 #[.string xn, .slice xa1 xl1.length xc1, .slice (some ⟨ub, uo, none⟩) xl2.length xc2, .slice xa3 xl3.length xc3] 26]) M83 hrow (by omega) (by kernel_rfl) (by omega)) ?_
              intro w86 M87 hk88 shk88
              have M89 : Mem w w86 ([rw' (some ⟨tg, 0, none⟩) xl2.length tc 95 1 (heads yl2.length (rs3.set i2 (some ⟨rg, 0, none⟩, rc, rl.set k2 false))), bx g5 #[.string yn, .slice ya1 yl1.length yc1, .slice (some ⟨vb, vo, none⟩) yl2.length yc2, .slice ya3 yl3.length yc3] 26, bx g1 #[.string xn, .slice xa1 xl1.length xc1, .slice (some ⟨ub, uo, none⟩) xl2.length xc2, .slice xa3 xl3.length xc3] 26] ++ rowsR yl2.length (rs3.set i2 (some ⟨rg, 0, none⟩, rc, rl.set k2 false))) := by rw [heads_set hrow]; exact M87
              refine SL.run (d := 10) (v := .bool true) (by kernel_rfl) ?_
              refine SL.nil ?_
              refine SQ.blockNormal ?_
              refine SC.next ?_
              refine SC.region [0, 1, 2] (by kernel_rfl) (by kernel_rfl) ?_
              refine SL.run (d := 57) (v := .int .i64 ((k2 : Nat) : Int)) (by kernel_rfl) ?_
              refine SL.int (d := 58) (q := .i64) (x := IntKind.wrap .i64 (((k2 : Nat) : Int) + (1 : Int))) (y := ((k2 + 1 : Nat) : Int)) (wr64 (by omega) (by omega) (by omega)) (by kernel_rfl) ?_
              refine SL.run (d := 12) (v := .int .i64 ((k2 + 1 : Nat) : Int)) (by kernel_rfl) ?_
              refine SL.nil ?_
              exact ag69 ⟨k2 + 1, (rs3.set i2 (some ⟨rg, 0, none⟩, rc, rl.set k2 false)), true⟩ (by kernel_rfl) ⟨M89, ⟨by omega, hr6⟩⟩ (by first | omega | (dsimp only; omega))
            · skip
              have phR85 : formsP (⟨xn, ⟨xa1, xc1, xl1⟩, ⟨some ⟨ub, uo, none⟩, xc2, xl2⟩, ⟨xa3, xc3, xl3⟩⟩ : Fc).d (⟨yn, ⟨ya1, yc1, yl1⟩, ⟨some ⟨vb, vo, none⟩, yc2, yl2⟩, ⟨ya3, yc3, yl3⟩⟩ : Fc).d (fun i k => tbl rs3 i k = true) (⟨uf, ul, us, ⟨um, ui⟩, ⟨ufa, ufc, ufl⟩⟩ : FT).d (⟨vf, vl, vs, ⟨vm, vi⟩, ⟨vfa, vfc, vfl⟩⟩ : FT).d := hR85.1 rfl
              have hr6 := round_keep hr5 (fun _ => ⟨_, _, by rw [hDX]; exact types_get hu, by rw [hDY]; exact types_get hv, by rw [hDX, hDY]; exact phR85⟩)
              refine SL.nil ?_
              refine SM.back hb82 ?_
              refine SM.last ?_
              refine SU.run (d := 81) (v := .bool false) (fun y hy => by kernel_rfl) ?_
              refine SU.pick (d := 82) (v := .bool false) (by kernel_rfl) ?_
              refine SU.done ?_
              refine SC.next ?_
              refine SC.no (by kernel_rfl) ?_
              refine SC.skip (by kernel_rfl) ?_
              refine SQ.blockNormal ?_
              refine SC.next ?_
              refine SC.region [0, 1, 2] (by kernel_rfl) (by kernel_rfl) ?_
              refine SL.run (d := 57) (v := .int .i64 ((k2 : Nat) : Int)) (by kernel_rfl) ?_
              refine SL.int (d := 58) (q := .i64) (x := IntKind.wrap .i64 (((k2 : Nat) : Int) + (1 : Int))) (y := ((k2 + 1 : Nat) : Int)) (wr64 (by omega) (by omega) (by omega)) (by kernel_rfl) ?_
              refine SL.run (d := 12) (v := .int .i64 ((k2 + 1 : Nat) : Int)) (by kernel_rfl) ?_
              refine SL.nil ?_
              exact ag69 ⟨k2 + 1, rs3, ch3⟩ (by kernel_rfl) ⟨M83, ⟨by omega, hr6⟩⟩ (by first | omega | (dsimp only; omega))
        · skip
          have ph74 : ¬ (((k2 : Nat) : Int) < ((yl2.length : Nat) : Int)) := of_decide_eq_false h74
          refine SL.bool (d := 56) (x := (decide (((k2 : Nat) : Int) < ((yl2.length : Nat) : Int)))) (y := false) h74 (by kernel_rfl) ?_
          refine SL.nil ?_
          refine SC.next ?_
          refine SC.no (by kernel_rfl) ?_
          refine SC.exit (i := 8) (by kernel_rfl) ?_
          refine SQ.seqExit (by nofun) ?_
          refine ex70 (by nofun) ?_
          refine SQ.blockHere ?_
          refine SQ.blockNormal ?_
          refine SC.next ?_
          refine SC.region [0, 1, 2] (by kernel_rfl) (by kernel_rfl) ?_
          refine SL.run (d := 50) (v := .int .i64 ((i2 : Nat) : Int)) (by kernel_rfl) ?_
          refine SL.int (d := 51) (q := .i64) (x := IntKind.wrap .i64 (((i2 : Nat) : Int) + (1 : Int))) (y := ((i2 + 1 : Nat) : Int)) (wr64 (by omega) (by omega) (by omega)) (by kernel_rfl) ?_
          refine SL.run (d := 11) (v := .int .i64 ((i2 + 1 : Nat) : Int)) (by kernel_rfl) ?_
          refine SL.nil ?_
          have hr4 := round_row hr5 (by rw [ly]; omega)
          exact ag61 ⟨i2 + 1, rs3, ch3⟩ (by kernel_rfl) ⟨M73, ⟨by omega, hr4⟩⟩ (by first | omega | (dsimp only; omega))
      · skip
        have ph66 : ¬ (((i2 : Nat) : Int) < ((xl2.length : Nat) : Int)) := of_decide_eq_false h66
        refine SL.bool (d := 49) (x := (decide (((i2 : Nat) : Int) < ((xl2.length : Nat) : Int)))) (y := false) h66 (by kernel_rfl) ?_
        refine SL.nil ?_
        refine SC.next ?_
        refine SC.no (by kernel_rfl) ?_
        refine SC.exit (i := 6) (by kernel_rfl) ?_
        refine SQ.seqExit (by nofun) ?_
        refine ex62 (by nofun) ?_
        refine SQ.blockHere ?_
        refine SC.next ?_
        refine SC.seq (by kernel_rfl) ?_
        refine SC.region [0, 1] (by kernel_rfl) (by kernel_rfl) ?_
        refine SL.run (d := 89) (v := .bool ch2) (by kernel_rfl) ?_
        cases ch2
        · skip
          refine SL.run (d := 90) (v := .bool true) (by kernel_rfl) ?_
          refine SL.nil ?_
          refine SC.next ?_
          refine SC.yes (by kernel_rfl) ?_
          refine SC.exit (i := 4) (by kernel_rfl) ?_
          refine SQ.blockOther rfl ?_
          refine SQ.seqExit (by nofun) ?_
          refine ex54 (by nofun) ?_
          refine SQ.blockHere ?_
          refine SC.next ?_
          refine SC.keep (l' := [(4, .slice none 0 0), (5, .slice ta xl2.length tc)]) [4, 5] (by kernel_rfl) ?_
          refine SC.seq (by kernel_rfl) ?_
          refine SC.region [0, 1] (by kernel_rfl) (by kernel_rfl) ?_
          refine SL.run (d := 91) (v := .slice ta xl2.length tc) (by kernel_rfl) ?_
          refine SL.run (d := 4) (v := .slice ta xl2.length tc) (by kernel_rfl) ?_
          refine SL.nil ?_
          refine SC.next ?_
          refine SC.ret (by kernel_rfl) ?_
          refine SQ.ret1 (t := 4) (v := .slice ta xl2.length tc) (.inr rfl) (by kernel_rfl) (by kernel_rfl) ?_
          refine ⟨_, _, tbl rs2, rfl, tb_rd M65 (by rw [← lx, ← ly]; exact hr2.2.1), round_done hr2 (by rw [lx]; omega), M65.bel⟩
        · skip
          refine SL.run (d := 90) (v := .bool false) (by kernel_rfl) ?_
          refine SL.nil ?_
          refine SC.next ?_
          refine SC.no (by kernel_rfl) ?_
          refine SC.skip (by kernel_rfl) ?_
          refine SQ.blockNormal ?_
          refine SC.next ?_
          refine SC.region [0, 1, 2] (by kernel_rfl) (by kernel_rfl) ?_
          refine SL.run (d := 43) (v := .int .i64 ((r : Nat) : Int)) (by kernel_rfl) ?_
          refine SL.int (d := 44) (q := .i64) (x := IntKind.wrap .i64 (((r : Nat) : Int) + (1 : Int))) (y := ((r + 1 : Nat) : Int)) (wr64 (by omega) (by omega) (by omega)) (by kernel_rfl) ?_
          refine SL.run (d := 9) (v := .int .i64 ((r + 1 : Nat) : Int)) (by kernel_rfl) ?_
          refine SL.nil ?_
          have hch := hr2.2.2.1 rfl
          exact ag53 ⟨r + 1, rs2⟩ (by kernel_rfl) ⟨M65, ⟨hr2.1, hr2.2.1, by dsimp only; rw [lx, ly]; omega⟩⟩ (by first | omega | (dsimp only; omega))
    · skip
      have ph58 : ¬ (((r : Nat) : Int) ≤ ((xl2.length * yl2.length : Nat) : Int)) := of_decide_eq_false h58
      exact absurd hcn (by omega)
end Go.Proofs.Ytgcjdkgeiopllaa
