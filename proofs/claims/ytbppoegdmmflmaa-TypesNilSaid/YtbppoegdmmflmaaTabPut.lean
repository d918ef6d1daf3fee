/- A table of types: a field is added. -/
import Derived.Test.YtbppoegdmmflmaaTabField
namespace Go.Proofs.Ytbppoegdmmflmaa
set_option linter.unusedVariables false
set_option linter.unusedSimpArgs false
open Go.RowKit

section
variable {P : Program} {ops : Array Oper} {rest : List Oper} {o : Oper} {a : Act} {w : World} {Q : Exit → Act → World → Prop}
/-- 'append(v[:len(v):len(v)], x...)': into a new row. -/
theorem append_clip (hgd : o.guard = none) (s x : Operand) {t e : TypeId} {z : Value} {size bytes : Nat} (ht : ET P t e z size bytes) (ho : o.op = .call { callee := .builtin .append, args := #[s, x], argTypes := #[t, t] })
    {R : List Row} (H : Sep w R) {a0 : Option Addr} {n : Nat} {xs : List Value} (hr : RdC w a0 n n xs) (hxl : xs.length = n * size)
    (hs : a.eval s = .slice a0 n n) {ad : Addr} {m c : Nat} {news : List Value} (hx : a.eval x = .slice (some ad) m c) (hnews : ∀ j u, news[j]? = some u → w.cell? (ad.add j) = some u)
    (hl : news.length = m * size) (h1 : ∀ u ∈ news, u.oneCell' = true) (hm : 0 < m) (hbytes : (n + m) * bytes ≤ 140737488355328) (h63 : n + m ≤ maxLen)
    (k : ∀ (h' cap' : Nat) (cs' : Array Value) (w' : World), Sep w' ((h', cs', e) :: R) → cs'.size = cap' * size → n + m ≤ cap' → cap' ≤ maxLen → cs'.toList.take ((n + m) * size) = xs ++ news → Below w.heap.size w w' → w.heap.size ≤ h' →
      wpList P ops Q rest (a.put o.dst (.slice (some ⟨h', 0, none⟩) (n + m) cap')) w') : wpList P ops Q (o :: rest) a w := by
  obtain ⟨⟨i, h2, hi, hz, hsz, hb⟩, hzs, hpos⟩ := ht
  have step : ∀ (v' : Value) (w' : World), (Builtin.append_ #[t, t] o.type #[.slice a0 n n, .slice (some ad) m c]).run P w = .ok v' w' → w'.ownsRow w.heap.size e size v' (n + m) (xs ++ news) → w.grownBy w' none → wpList P ops Q (o :: rest) a w := by
    intro v' w' hr r1 r2
    obtain ⟨_, hh⟩ := r1
    rcases hh with ⟨_, hh⟩ | ⟨g, cap', cur, rfl, hge, hg, q1, q2, q3, q4⟩
    · omega
    · have hk : Ke Non w w' := (Ke.ofGrown r2).mono (fun i _ e => by cases e)
      have hw := k g cap' cur w' (Sep.cons (H.ke hk (fun _ _ h => h)) hg (fun x hx hh => by have := (H.row x hx).lt; omega)) q3 q1 q2 q4 hk.non hge
      refine wpList_plain hgd fun K hK => ?_
      unfold Oper.wp execOp
      simp only [ho, resolve, invoke, builtin, Sem.run_bind, Sem.run_pure, Result.andThen_ok, List.map_toArray, List.map_cons, List.map_nil, hs, hx, hr]
      exact hK _ _ hw
  cases a0 with
  | none =>
    obtain ⟨rfl, _⟩ := hr.nil rfl
    have hx0 : xs = [] := List.length_eq_zero_iff.1 (by simpa using hxl)
    subst hx0
    obtain ⟨v', w', r0, r1, r2, _⟩ := run_append_own (P := P) w w.heap.size t o.type e i z size bytes h2 hi hz hsz hb hzs hpos (.slice none 0 0) 0 [] (World.ownsRow_nil w _ e size) ad m c news hl hnews h1 h63 hbytes (Nat.le_refl _)
    exact step v' w' r0 r1 r2
  | some b =>
    obtain ⟨v', w', r0, r1, r2⟩ := run_append_arg_grows (P := P) w t o.type e i z size bytes h2 hi hz hsz hb hzs hpos b n n xs hxl (fun j u hj => by
      obtain ⟨bb, oo, h5, h6⟩ := hr.at'
      have hj0 : 0 < xs.length := Nat.lt_of_le_of_lt (Nat.zero_le _) (List.getElem?_eq_some_iff.1 hj).1
      obtain ⟨h7, _⟩ := h5 hj0
      simp only [Option.some.injEq] at h7
      subst h7
      rw [Addr.add_lit]
      exact h6 j u hj) ad m c news hl hnews (by omega) h63 hbytes
    exact step v' w' r0 r1 r2
end

set_option maxHeartbeats 2000000 in
theorem clip_walk (a : Option Addr) (n c : Nat) (w : World) (h : n ≤ c) (hc : c ≤ maxLen) (ha : a = none → c = 0) (hn : a ≠ none → 0 < n) :
    Calls Try.prog 40 #[.slice a n c] w fun e w' => e = .returned (.slice a n n) ∧ w' = w := by
  have i1 : (n : Int) ≤ 9223372036854775807 := by unfold maxLen at hc; omega
  have i2 : (0 : Int) ≤ n := by omega
  have i3 : (n : Int) ≤ c := by omega
  go_enter Try.func40, Try.ntmps40
  cases a with
  | none =>
    obtain rfl := ha rfl
    obtain rfl : n = 0 := by omega
    go_wp2_with fail
    go_ret
    exact ⟨rfl, rfl⟩
  | some b =>
    have := hn (by simp)
    go_wp2_with fail
    go_ret
    exact ⟨rfl, rfl⟩

/-- a record's fields lie in a block of the list. -/
def FlIn (R : List Row) (t : Ty) (F : List Fld) : Prop :=
  t.fn = F.length ∧ ((t.fa = none ∧ t.fc = 0 ∧ F = []) ∨ ∃ b cs, t.fa = some ⟨b, 0, none⟩ ∧ 0 < F.length ∧ (b, cs, 48) ∈ R ∧ cs.toList.take (F.length * 3) = fldRow F ∧ F.length ≤ t.fc ∧ t.fc ≤ maxLen)

theorem FlIn.rd {R : List Row} {t : Ty} {F : List Fld} {w : World} {l : List Row} (h : FlIn R t F) (S : Sep w l) (hl : ∀ x ∈ R, x ∈ l) {c : Nat} (hc : c = t.fc ∨ c = F.length) : RdC w t.fa F.length c (fldRow F) := by
  obtain ⟨_, ⟨h1, h2, rfl⟩ | ⟨b, cs, h1, h0, h2, h3, h4, h5⟩⟩ := h
  · rw [h1]
    have : c = 0 := by rcases hc with rfl | rfl <;> simp [h2]
    subst this
    exact RdC.nilSlice w
  · have ha := S.row _ (hl _ h2)
    have hcc : F.length ≤ c ∧ c ≤ maxLen := by rcases hc with rfl | rfl <;> omega
    refine ⟨⟨b, 0, fun _ => ⟨h1, ha.lt⟩, fun j u hj => ?_⟩, fun hn => (by rw [h1] at hn; cases hn), hcc.1, hcc.2⟩
    rw [Nat.zero_add, ha.cell]
    rw [← h3, List.getElem?_take] at hj
    split at hj
    · simpa using hj
    · cases hj
theorem FlIn.mono {R R' : List Row} {t : Ty} {F : List Fld} (h : FlIn R t F) (hl : ∀ x ∈ R, x ∈ R') : FlIn R' t F := by
  obtain ⟨h0, h | ⟨b, cs, h1, h00, h2, h3⟩⟩ := h
  · exact ⟨h0, .inl h⟩
  · exact ⟨h0, .inr ⟨b, cs, h1, h00, hl _ h2, h3⟩⟩

theorem tyRow_set : ∀ (L : List Ty) (r : Nat) (t t' : Ty) (j : Nat) (u : Value), L[r]? = some t → j < 7 → t'.cells = t.cells.set j u → (tyRow L).set (r * 7 + j) u = tyRow (L.set r t')
  | [], r, t, t', j, u, h, _, _ => by simp at h
  | x :: L, 0, t, t', j, u, h, hj, he => by
    simp at h; subst h
    unfold tyRow
    rw [List.set_cons_zero, List.flatMap_cons, List.flatMap_cons, List.set_append_left _ _ (by simp [Ty.cells]; omega), he]
    simp
  | x :: L, r + 1, t, t', j, u, h, hj, he => by
    have := tyRow_set L r t t' j u (by simpa using h) hj he
    unfold tyRow at *
    rw [List.set_cons_succ, List.flatMap_cons, List.flatMap_cons, List.set_append_right _ _ (by simp [Ty.cells]; omega), ← this]
    congr 2
    simp [Ty.cells]; omega
theorem Row2.set {g h cap : Nat} {cs : Array Value} {L : List Ty} (H : Row2 g h cap cs L) {r : Nat} {t t' : Ty} (hr : L[r]? = some t) (j : Nat) (u : Value) (hj : j < 7) (he : t'.cells = t.cells.set j u) : Row2 g h cap (cs.setIfInBounds (r * 7 + j) u) (L.set r t') := by
  refine ⟨by rw [Array.size_setIfInBounds]; exact H.size, by rw [List.length_set]; exact H.le, H.cap, ?_⟩
  rw [List.length_set, Array.toList_setIfInBounds, List.take_set, H.row]
  exact tyRow_set L r t t' j u hr hj he
theorem Row2.lt {g h cap : Nat} {cs : Array Value} {L : List Ty} (H : Row2 g h cap cs L) {r : Nat} (hr : r < L.length) {j : Nat} (hj : j < 7) : r * 7 + j < cs.size := by
  rw [H.size]; have := H.le; omega

theorem et_fld : ET Try.prog 34 48 (Fld.mk 0 0 0).val 3 24 := ET.of Try.underlying34 (by kernel_rfl) (by decide) (by decide)

theorem made_yes {L : List Ty} {r : Nat} {t : Ty} (hr : L[r]? = some t) (hr1 : 1 ≤ r) {f : Int} (hf : t.form = f) : madeB L (r : Int) f = true := by
  have hlt : r < L.length := (List.getElem?_eq_some_iff.1 hr).1
  unfold madeB inB tyAt
  rw [show ((r : Int)).toNat = r by omega, List.getD_eq_getElem?_getD, hr]
  simp [hf]; omega
theorem in_yes {L : List Ty} {r : Nat} (hr : r < L.length) (hr1 : 1 ≤ r) : inB L (r : Int) = true := by
  unfold inB; simp; omega
theorem size_yes {L : List Ty} {r : Nat} {t : Ty} (hr : L[r]? = some t) (hr1 : 1 ≤ r) : sizeB L (r : Int) = t.size := by
  have hlt : r < L.length := (List.getElem?_eq_some_iff.1 hr).1
  unfold sizeB tyAt
  rw [in_yes hlt hr1, show ((r : Int)).toNat = r by omega, List.getD_eq_getElem?_getD, hr]
  rfl

theorem fld_new {w : World} {p : Nat} {nm a : Int} {y : Nat} (h : At w p #[.int .i64 nm, .int .i64 a, .int .i64 (y : Int)] 48) (j : Nat) (u : Value) (hj : (Fld.mk nm a y).cells[j]? = some u) : w.cell? ((⟨p, 0, none⟩ : Addr).add j) = some u := by
  rw [Addr.add_lit, Nat.zero_add, h.cell]
  simpa [Fld.cells] using hj
theorem fld_one {nm a y : Int} : ∀ u ∈ (Fld.mk nm a y).cells, u.oneCell' = true := by
  intro u hu
  simp only [Fld.cells, List.mem_cons, List.not_mem_nil, or_false] at hu
  rcases hu with rfl | rfl | rfl <;> rfl

/-- what the stores leave. -/
theorem put_end {B g h cap : Nat} {cs : Array Value} {L : List Ty} {R : List Row} {nf : Int} {w w4 w5 w7 w8 w9 : World} {r : Nat} {t : Ty} {F : List Fld} {nm at' us : Int} {y : Nat} {h' cap' p : Nat} {cs' np : Array Value} {tp : TypeId} {o : Obj} (hg : B ≤ g) (hh : B ≤ h) (hB : B ≤ w.heap.size)
    (hr : L[r]? = some t) (r2 : Row2 g h cap cs L) (b4 : Below w.heap.size w w4) (k5 : Ke (· = g) w4 w5) (b7 : Below (w5.alloc o).heap.size (w5.alloc o) w7) (k8 : Ke (· = h) w7 w8) (k9 : Ke (· = h) w8 w9)
    (S9 : Sep w9 ((h', cs', 48) :: (p, np, tp) :: (g, (tabCells h L.length cap nf).setIfInBounds 1 (.int .i64 (nf + 1)), 41) :: (h, (cs.setIfInBounds (r * 7 + 4) (.slice (some ⟨h', 0, none⟩) (F.length + 1) cap')).setIfInBounds (r * 7 + 3) (.int .i64 (at' + us)), 36) :: R))
    (q3 : cs'.size = cap' * 3) (q1 : F.length + 1 ≤ cap') (q2 : cap' ≤ maxLen) (q4 : cs'.toList.take ((F.length + 1) * 3) = fldRow F ++ (Fld.mk nm at' y).cells) :
    ∃ fb cap cs, Ending.returned (Value.int .i64 0) = .returned (.int .i64 0) ∧
      Tab B w9 g (L.set r ⟨t.form, t.base, t.len, at' + us, some ⟨fb, 0, none⟩, F.length + 1, cap, t.mod, t.ref⟩) (nf + 1) ((fb, cs, 48) :: R) ∧
      FlIn ((fb, cs, 48) :: R) ⟨t.form, t.base, t.len, at' + us, some ⟨fb, 0, none⟩, F.length + 1, cap, t.mod, t.ref⟩ (F ++ [⟨nm, at', y⟩]) ∧ Below B w w9 := by
  have KB : Ke (fun i => B ≤ i) w w9 := (Ke.below _ b4).trans ((k5.mono (fun i _ e => by subst e; exact hg)).trans ((Ke.below _ (bel1 w5 o)).trans ((Ke.below _ b7).trans ((k8.mono (fun i _ e => by subst e; exact hh)).trans (k9.mono (fun i _ e => by subst e; exact hh))))))
  refine ⟨h', cap', cs', rfl, ⟨hg, h, cap, (cs.setIfInBounds (r * 7 + 4) (.slice (some ⟨h', 0, none⟩) (F.length + 1) cap')).setIfInBounds (r * 7 + 3) (.int .i64 (at' + us)), hh, ?_, ?_⟩, ⟨by simp, .inr ⟨h', cs', rfl, by simp, List.mem_cons_self .., ?_, by simpa using q1, q2⟩⟩, Below.ofKe KB (fun _ h => h) hB⟩
  · have S10 := (S9.perm (List.Perm.append_right R (List.perm_append_comm (l₁ := [_, _]) (l₂ := [_, _])))).sub (List.Sublist.cons_cons _ (List.Sublist.cons_cons _ (List.Sublist.cons_cons _ (List.Sublist.cons _ (List.Sublist.refl _)))))
    rw [List.length_set]
    exact S10
  · have hlt : r < L.length := (List.getElem?_eq_some_iff.1 hr).1
    have r3 := r2.set (t' := ⟨t.form, t.base, t.len, t.size, some ⟨h', 0, none⟩, F.length + 1, cap', t.mod, t.ref⟩) hr 4 (.slice (some ⟨h', 0, none⟩) (F.length + 1) cap') (by decide) rfl
    have r4 := r3.set (t' := ⟨t.form, t.base, t.len, at' + us, some ⟨h', 0, none⟩, F.length + 1, cap', t.mod, t.ref⟩) (List.getElem?_set_self hlt) 3 (.int .i64 (at' + us)) (by decide) rfl
    rw [List.set_set] at r4
    exact r4
  · rw [List.length_append]
    refine q4.trans ?_
    simp [fldRow]

set_option maxRecDepth 20000 in
set_option maxHeartbeats 8000000 in
theorem put_walk {B : Nat} {w : World} {g : Nat} {L : List Ty} {nf : Int} {R : List Row} (T : Tab B w g L nf R) (hB : B ≤ w.heap.size) {r : Nat} {t : Ty} (hr : L[r]? = some t) (hr1 : 1 ≤ r) (hf : t.form = 2)
    {y : Nat} {u : Ty} (hy : L[y]? = some u) (hy1 : 1 ≤ y) (nm : Int) {F : List Fld} (hF : FlIn R t F) (hno : ∀ f ∈ F, f.name ≠ nm) (hlen : F.length < 100) (hnf : 0 ≤ nf ∧ nf < 2000)
    (ht : 0 ≤ t.size ∧ t.size ≤ 262144) (hu : 0 ≤ u.size ∧ u.size ≤ 262144) {at' : Int} (hat : at' = if 1 < u.size then upB t.size else t.size) (hsum : at' + u.size ≤ 262144) :
    Calls Try.prog 23 #[.pointer (some ⟨g, 0, none⟩), .int .i64 r, .int .i64 nm, .int .i64 y] w fun e w' => ∃ fb cap cs, e = .returned (.int .i64 0) ∧
      Tab B w' g (L.set r ⟨t.form, t.base, t.len, at' + u.size, some ⟨fb, 0, none⟩, F.length + 1, cap, t.mod, t.ref⟩) (nf + 1) ((fb, cs, 48) :: R) ∧
      FlIn ((fb, cs, 48) :: R) ⟨t.form, t.base, t.len, at' + u.size, some ⟨fb, 0, none⟩, F.length + 1, cap, t.mod, t.ref⟩ (F ++ [⟨nm, at', y⟩]) ∧ Below B w w' := by
  have hrl : r < L.length := (List.getElem?_eq_some_iff.1 hr).1
  have hyl : y < L.length := (List.getElem?_eq_some_iff.1 hy).1
  have T0 := T
  obtain ⟨hg, h, cap, cs, hh, S, r2⟩ := T0
  have HS := Lib.hid S
  have HR2 := Lib.hid r2
  have HM := Lib.hid (made_walk T (r : Int) 2)
  rw [made_yes hr hr1 hf] at HM
  have HI := Lib.hid (in_walk T (y : Int))
  rw [in_yes hyl hy1] at HI
  have HFd := Lib.hid (field_none T hr hr1 hf nm (hF.rd S (fun x hx => List.mem_cons_of_mem _ (List.mem_cons_of_mem _ hx)) (.inl rfl)) hF.1 hno)
  have HT := Lib.hid T
  clear T r2
  go_enter Try.func23, Try.ntmps23
  go_wp2_with fail
  refine HM.out.mono ?_
  rintro e w1 ⟨rfl, rfl⟩
  go_wp2_with fail
  refine HI.out.mono ?_
  rintro e w2 ⟨rfl, rfl⟩
  go_wp2_with fail
  refine HFd.out.mono ?_
  rintro e w1 ⟨rfl, hb1⟩
  have S1 := S.bel hb1
  have H1 := (Sep.nil w1).alloc #[.int .i64 0, .int .i64 0, .int .i64 0] 48
  have b2 := bel1 w1 (.cells #[.int .i64 0, .int .i64 0, .int .i64 0] 48)
  have HH1 := Lib.hid H1
  have HB2 := Lib.hid b2
  have HS1 := Lib.hid S1
  have HB1 := Lib.hid hb1
  have l1 : (0 : Int) ≤ r := by omega
  have l2 : (r : Int) < L.length := by omega
  clear H1 b2 S1 hb1 S
  go_wp2_with (refine store_sep rfl 48 (.tmp 9) (.tmp 29) rfl HH1.out 0 rfl rfl rfl (by kernel_rfl) rfl ?_ ?_; rfl; intro w2 S2 k2 s2; clear s2; have B22 := HB2.out.trans (Below.ofKe k2 (fun i e => Nat.le_of_eq e.symm) HB2.out.size); have S22 := HS1.out.bel B22; have c0 : w2.cell? ⟨g, 0, none⟩ = some (.slice (some ⟨h, 0, none⟩) L.length cap) := ((S22.at 0 rfl).cell 0).trans rfl)
  have HB22 := Lib.hid (bel_then HB1.out B22)
  have T2 := Lib.hid (HT.out.bel HB22.out)
  have HS22 := Lib.hid S22
  clear S2 k2 B22 S22 c0
  refine wp_region_mix' [([0, 1, 3, 4, 5, 6], 2)] [7, 8] (by kernel_rfl) (by kernel_rfl) (fun _ _ d _ _ h => by cases d <;> exact h) ?_
  intro w3 hb3
  have S3 := HS22.out.bel hb3
  have T3 := Lib.hid (T2.out.bel hb3)
  have q1 := (S3.at 1 rfl).laterCellB (v := .int .i64 t.size) (r * 7 + 3) (HR2.out.at hr 3 rfl)
  refine mix_step ?_
  simp only [pickOps, nth]
  (repeat (go_big_quiet_step (fail)))
  refine wpQuiet_nil ?_
  go_wp2_with fail
  have hz := size_walk T3.out (y : Int)
  rw [size_yes hy hy1] at hz
  refine hz.mono ?_
  rintro e w4 ⟨rfl, rfl⟩
  go_wp2_with fail
  refine ⟨Below.refl _ _, mix_end ?_⟩
  simp only [pickOps, nth]
  (repeat (go_big_quiet_step (fail)))
  refine wpQuiet_nil ?_
  have HS3 := Lib.hid S3
  have HB3 := Lib.hid (bel_then HB22.out hb3)
  clear q1 hz S3 hb3
  have HC4 := Lib.hid (show cs[r * 7 + 4]? = some (.slice t.fa F.length t.fc) by rw [← hF.1]; exact HR2.out.at hr 4 rfl)
  have d1 : w4.cell? ⟨g, 1, none⟩ = some (.int .i64 nf) := ((HS3.out.at 0 rfl).cell 1).trans rfl
  have d4 : w4.cell? ⟨h, r * 7 + 4, none⟩ = some (.slice t.fa F.length t.fc) := ((HS3.out.at 1 rfl).cell _).trans HC4.out
  have HF := Lib.hid hF
  have HJ4 := Lib.hid (show decide (r * 7 + 4 < cs.size) = true from decide_eq_true (HR2.out.lt hrl (by decide)))
  have HJ3 := Lib.hid (show r * 7 + 3 < cs.size from HR2.out.lt hrl (by decide))
  have HN1 := Lib.hid (show (F.length + 1) * 24 ≤ 140737488355328 by omega)
  have HN2 := Lib.hid (show F.length + 1 ≤ maxLen by unfold maxLen; omega)
  have hcl : ∀ w, Calls Try.prog 40 #[.slice t.fa F.length t.fc] w fun e w' => e = .returned (.slice t.fa F.length F.length) ∧ w' = w := by
    intro w
    obtain ⟨_, ⟨e1, e2, e3⟩ | ⟨b, cs, e1, e0, _, _, e4, e5⟩⟩ := hF
    · exact clip_walk _ _ _ w (by rw [e3]; exact Nat.zero_le _) (by rw [e2]; exact Nat.zero_le _) (fun _ => e2) (fun hh => (hh e1).elim)
    · exact clip_walk _ _ _ w e4 e5 (fun hh => by rw [e1] at hh; cases hh) (fun _ => e0)
  have HCl := Lib.hid (hcl)
  have hlen' : (F.length : Int) < 100 := by omega
  have HAT := Lib.hid hat
  have ha0 : 0 ≤ at' := by
    rw [hat]; unfold upB; split <;> omega
  have HRR := Lib.hid hr
  clear hF hcl hr hy hat hno
  by_cases hone : 1 < u.size
  · have ha1 : upB t.size = at' := by rw [HAT.out, if_pos hone]
    have HA1 := Lib.hid ha1
    clear ha1
    go_wp2_with fail
    refine (up_walk t.size _ ⟨ht.1, by omega⟩).mono ?_
    rintro e w6 ⟨rfl, rfl⟩
    rw [HA1.out]
    ( go_wp2_with (refine store1_sep rfl 3 (.tmp 72) (.tmp 70) rfl HS3.out 0 rfl rfl rfl rfl (by kernel_rfl) rfl ?_; intro w5 S5 k5 s5; clear s5; have d5 : w5.cell? ⟨h, r * 7 + 4, none⟩ = some (.slice t.fa F.length t.fc) := ((S5.at 1 rfl).cell _).trans HC4.out) ; refine (HCl.out _).mono ?_ ; rintro e w6 ⟨rfl, rfl⟩ ; have S6 := S5.alloc #[.int .i64 nm, .int .i64 at', .int .i64 y] 48 ; have HS6 := Lib.hid S6 ; have HK5 := Lib.hid k5 ; have hrd := Lib.hid (HF.out.rd S6 (fun x hx => List.mem_cons_of_mem _ (List.mem_cons_of_mem _ (List.mem_cons_of_mem _ hx))) (.inr rfl)) ; have hn6 := Lib.hid (fun j u => fld_new (nm := nm) (a := at') (y := y) (S6.at 0 rfl) j u) ; clear S6 S5 k5 d5 ; go_wp2_with (first | (at_builtin; refine append_clip rfl (.tmp 78) (.tmp 83) et_fld rfl HS6.out hrd.out (fldRow_len F) rfl rfl hn6.out rfl fld_one (by decide) HN1.out HN2.out ?_; intro h' cap' cs' w7 S7 q3 q1 q2 q4 b7 hge) | (refine store1_sep rfl 34 (.tmp 86) (.tmp 84) rfl S7 3 rfl rfl rfl HJ4.out (by kernel_rfl) rfl ?_; intro w8 S8 k8 s8; clear s8) | (refine store1_sep rfl 3 (.tmp 92) (.tmp 90) rfl S8 3 rfl rfl rfl (decide_eq_true (by rw [Array.size_setIfInBounds]; exact HJ3.out)) (by kernel_rfl) rfl ?_; intro w9 S9 k9 s9; clear s9)) ; go_ret ; exact put_end hg hh hB HRR.out HR2.out HB3.out HK5.out b7 k8 k9 S9 q3 q1 q2 q4)
  · have ha1 : t.size = at' := by rw [HAT.out, if_neg hone]
    rw [ha1]
    ( go_wp2_with (refine store1_sep rfl 3 (.tmp 72) (.tmp 70) rfl HS3.out 0 rfl rfl rfl rfl (by kernel_rfl) rfl ?_; intro w5 S5 k5 s5; clear s5; have d5 : w5.cell? ⟨h, r * 7 + 4, none⟩ = some (.slice t.fa F.length t.fc) := ((S5.at 1 rfl).cell _).trans HC4.out) ; refine (HCl.out _).mono ?_ ; rintro e w6 ⟨rfl, rfl⟩ ; have S6 := S5.alloc #[.int .i64 nm, .int .i64 at', .int .i64 y] 48 ; have HS6 := Lib.hid S6 ; have HK5 := Lib.hid k5 ; have hrd := Lib.hid (HF.out.rd S6 (fun x hx => List.mem_cons_of_mem _ (List.mem_cons_of_mem _ (List.mem_cons_of_mem _ hx))) (.inr rfl)) ; have hn6 := Lib.hid (fun j u => fld_new (nm := nm) (a := at') (y := y) (S6.at 0 rfl) j u) ; clear S6 S5 k5 d5 ; go_wp2_with (first | (at_builtin; refine append_clip rfl (.tmp 78) (.tmp 83) et_fld rfl HS6.out hrd.out (fldRow_len F) rfl rfl hn6.out rfl fld_one (by decide) HN1.out HN2.out ?_; intro h' cap' cs' w7 S7 q3 q1 q2 q4 b7 hge) | (refine store1_sep rfl 34 (.tmp 86) (.tmp 84) rfl S7 3 rfl rfl rfl HJ4.out (by kernel_rfl) rfl ?_; intro w8 S8 k8 s8; clear s8) | (refine store1_sep rfl 3 (.tmp 92) (.tmp 90) rfl S8 3 rfl rfl rfl (decide_eq_true (by rw [Array.size_setIfInBounds]; exact HJ3.out)) (by kernel_rfl) rfl ?_; intro w9 S9 k9 s9; clear s9)) ; go_ret ; exact put_end hg hh hB HRR.out HR2.out HB3.out HK5.out b7 k8 k9 S9 q3 q1 q2 q4)

end Go.Proofs.Ytbppoegdmmflmaa
