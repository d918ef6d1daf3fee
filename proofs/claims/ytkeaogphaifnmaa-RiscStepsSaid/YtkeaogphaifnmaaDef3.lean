/- THE LAW of regions that lay new variables (XDef): the invariant, the law. -/
import Derived.Test.YtkeaogphaifnmaaDef2
import Derived.Test.YtkeaogphaifnmaaCut
namespace Go.Proofs.Ytkeaogphaifnmaa
set_option linter.unusedVariables false
set_option linter.unusedSimpArgs false
open Go.RowKit

def ptr (g : Nat) : Value := .pointer (some ⟨g, 0, none⟩)
def val (Ds : List Dv) (vals : Nat → Value) (g : Nat → Nat) (i : Nat) : Value := if (Ds.map (·.ia)).contains i then ptr (g i) else vals i

/-- what is stored: a value's cells. -/
def stored (b : Act) (D : Dv) : Array Value := (b.tmps.getD D.y undef).cells

structure DInv (l : List Oper) (Ds : List Dv) (vals : Nat → Value) (a0 b : Act) (w0 : World) (g : Nat → Nat) (L : Array Bool) (a : Act) (w : World) : Prop where
  size : L.size = l.length
  ts : a.tmps.size = a0.tmps.size
  df : a.defers = a0.defers
  f1 : ∀ i, L.getD i false = true → ∀ d, dstOf l i = some d → a.tmps[d]? = some (val Ds vals g i)
  f2 : ∀ t, (∀ i, L.getD i false = true → dstOf l i ≠ some t) → a.tmps[t]? = a0.tmps[t]?
  bel : Below w0.heap.size w0 w
  blk : ∀ D ∈ Ds, L.getD D.ia false = true → w0.heap.size ≤ g D.ia ∧ At w (g D.ia) (if L.getD D.is false then stored b D else D.z) D.ty
  ne : ∀ D ∈ Ds, ∀ E ∈ Ds, L.getD D.ia false = true → L.getD E.ia false = true → D.ia ≠ E.ia → g D.ia ≠ g E.ia
  ord : ∀ D ∈ Ds, L.getD D.is false = true → L.getD D.ia false = true

theorem getD_set {L : Array Bool} {i j : Nat} (hi : i < L.size) : (L.setIfInBounds i true).getD j false = (if j = i then true else L.getD j false) := by
  by_cases h : j = i
  · subst h; simp [hi]
  · rw [if_neg h]
    simp [Array.getElem?_setIfInBounds_ne (Ne.symm h)]

theorem put_slot {a : Act} {d t : Tmp} {v : Value} (hd : d < a.tmps.size) : (a.put (some d) v).tmps[t]? = if t = d then some v else a.tmps[t]? := by
  by_cases h : t = d
  · subst h; simp [Act.put, hd]
  · rw [if_neg h]; simp [Act.put, Array.getElem?_setIfInBounds_ne (Ne.symm h)]

/-- the frame's part of a step. -/
theorem frame_step {l : List Oper} (hd : ((List.range l.length).filterMap (dstOf l)).Nodup) {a0 a : Act} {L : Array Bool} {r r' : Nat → Value} {i : Nat} (hi : i < L.size) {o : Oper} (ho : nth l i = some o) (hsz : ∀ o ∈ l, ∀ d, o.dst = some d → d < a.tmps.size)
    (hr : ∀ j, j ≠ i → L.getD j false = true → r' j = r j)
    (f1 : ∀ j, L.getD j false = true → ∀ d, dstOf l j = some d → a.tmps[d]? = some (r j)) (f2 : ∀ t, (∀ j, L.getD j false = true → dstOf l j ≠ some t) → a.tmps[t]? = a0.tmps[t]?) :
    (∀ j, (L.setIfInBounds i true).getD j false = true → ∀ d, dstOf l j = some d → (a.put o.dst (r' i)).tmps[d]? = some (r' j)) ∧
    (∀ t, (∀ j, (L.setIfInBounds i true).getD j false = true → dstOf l j ≠ some t) → (a.put o.dst (r' i)).tmps[t]? = a0.tmps[t]?) := by
  have hdo : dstOf l i = o.dst := by unfold dstOf; rw [ho]; rfl
  have hol : o ∈ l := by rw [nth_eq] at ho; exact List.mem_of_getElem? ho
  refine ⟨fun j hj d hjd => ?_, fun t ht => ?_⟩
  · rw [getD_set hi] at hj
    by_cases e : j = i
    · subst e
      rw [hdo] at hjd
      rw [hjd, put_slot (hsz o hol d hjd), if_pos rfl]
    · rw [if_neg e] at hj
      rw [hr j e hj]
      cases hod : o.dst with
      | none => exact f1 j hj d hjd
      | some d' =>
        have hne : d ≠ d' := fun ed => e (dst_inj hd hjd (by rw [hdo, hod, ed]))
        rw [put_slot (hsz o hol d' hod), if_neg hne]
        exact f1 j hj d hjd
  · have h1 := ht i (by rw [getD_set hi, if_pos rfl])
    rw [hdo] at h1
    have h2 := f2 t (fun j hj => ht j (by rw [getD_set hi]; split <;> first | rfl | exact hj))
    cases hod : o.dst with
    | none => exact h2
    | some d' =>
      have hne : t ≠ d' := fun e => h1 (by rw [hod, e])
      rw [put_slot (hsz o hol d' hod), if_neg hne]
      exact h2

/-- what an operation reads is in the frame what it is in the canonical one. -/
theorem reads_same {l : List Oper} {a0 a b : Act} {L : Array Bool} {r vals : Nat → Value} {pre : List Nat} {o : Oper} {i : Nat} (ho : nth l i = some o) (hr : i ∈ Region.ready .any l.toArray L) {xs : List Operand} (hx : readsB l pre o xs = true)
    (hv : ∀ j ∈ pre, r j = vals j)
    (f1 : ∀ j, L.getD j false = true → ∀ d, dstOf l j = some d → a.tmps[d]? = some (r j)) (f2 : ∀ t, (∀ j, L.getD j false = true → dstOf l j ≠ some t) → a.tmps[t]? = a0.tmps[t]?)
    (g1 : ∀ j ∈ pre, ∀ d, dstOf l j = some d → b.tmps[d]? = some (vals j)) (g2 : ∀ t, (∀ j ∈ pre, dstOf l j ≠ some t) → b.tmps[t]? = a0.tmps[t]?) : ∀ x ∈ xs, a.eval x = b.eval x := by
  intro x hxm
  have h := (List.all_eq_true.1 hx) x hxm
  cases x with
  | tmp t =>
    simp only at h
    have key : a.tmps[t]? = b.tmps[t]? := by
      by_cases hex : ∃ j, j < l.length ∧ dstOf l j = some t
      · obtain ⟨j, hj, hjt⟩ := hex
        have h2 := (List.all_eq_true.1 h) j (List.mem_range.2 hj)
        simp only [hjt, bne_self_eq_false, Bool.false_or, Bool.and_eq_true] at h2
        have hp : j ∈ pre := by simpa using h2.1
        rw [f1 j (ready_binds hr ho h2.2) t hjt, g1 j hp t hjt, hv j hp]
      · have hno : ∀ j, dstOf l j ≠ some t := by
          intro j hj
          refine hex ⟨j, ?_, hj⟩
          unfold dstOf at hj
          rw [nth_eq] at hj
          rcases Nat.lt_or_ge j l.length with h | h
          · exact h
          · rw [List.getElem?_eq_none h] at hj
            cases hj
        rw [f2 t (fun j _ => hno j), g2 t (fun j _ => hno j)]
    simp only [Act.eval, Array.getD_eq_getD_getElem?, key]
  | _ => rfl

theorem run_store_any {P : Program} {w : World} {g : Nat} {old : Array Value} {t : TypeId} (h : At w g old t) (ty : TypeId) (v : Value) (hi : (P.info? ty).map (·.size) = some v.cells.size) (hs : old.size = v.cells.size) (h1 : v.cells.toList.all (·.oneCell') = true) :
    (Instr.storeAt ty (ptr g) v).run P w = .ok () (w.setRow g v.cells) := by
  have h2 := run_storeVar_row (P := P) w g t ty old v.cells h hi hs (by simpa using h1)
  have e : storeVar ty ⟨g, 0, none⟩ v = storeVar ty ⟨g, 0, none⟩ (.agg v.cells) := by unfold storeVar; rfl
  rw [← e] at h2
  simp only [Instr.storeAt, Instr.sureAddr, ptr, Sem.run_bind, Sem.run_pure, Result.andThen_ok, h2]

theorem noSel_spec {l : List Oper} (h : noSel l = true) {i : Nat} {o : Oper} (ho : nth l i = some o) : ∀ cs b, o.op ≠ .select cs b := by
  intro cs b e
  have := (List.all_eq_true.1 h) o (by rw [nth_eq] at ho; exact List.mem_of_getElem? ho)
  rw [e] at this
  cases this

theorem valsB_split {l : List Oper} : ∀ (N pre : List Nat), valsB l N pre = true → ∀ (k : Nat) (i : Nat), N[k]? = some i → ∃ o, nth l i = some o ∧ o.guard = none ∧ readsB l (pre ++ N.take k) o o.op.operands.toList = true
  | [], _, _, k, i, h => by simp at h
  | j :: N, pre, hv, k, i, h => by
    simp only [valsB, Bool.and_eq_true] at hv
    cases k with
    | zero =>
      simp at h
      subst h
      cases ho : nth l j with
      | none => rw [ho] at hv; simp at hv
      | some o =>
        rw [ho] at hv
        simp only [Bool.and_eq_true] at hv
        exact ⟨o, rfl, by simpa using hv.1.1, by simpa using hv.1.2⟩
    | succ k =>
      simp at h
      obtain ⟨o, h1, h2, h3⟩ := valsB_split N (pre ++ [j]) hv.2 k i h
      exact ⟨o, h1, h2, by simpa using h3⟩

/-- what is asked of a variable that the region lays. -/
def DvOk (P : Program) (b : Act) (D : Dv) : Prop := (∃ zv, (P.info? D.ty).map (·.zero) = some (some zv) ∧ zv.cells = D.z) ∧ (P.info? D.ty).map (·.size) = some (stored b D).size ∧ D.z.size = (stored b D).size ∧ (stored b D).toList.all (·.oneCell') = true

section
variable {P : Program} {l : List Oper} {Q : Exit → Act → World → Prop}

theorem def_step {N : List Nat} {Ds : List Dv} {vals : Nat → Value} {a0 b : Act} {w0 : World} (hB : defB l N Ds = true) (hsz : ∀ o ∈ l, ∀ d, o.dst = some d → d < a0.tmps.size)
    (ht : TraceV P l (Below w0.heap.size w0) vals N a0 b) (hD : ∀ D ∈ Ds, DvOk P b D)
    (L : Array Bool) (a : Act) (w : World) (i : Nat) (g : Nat → Nat) (hI : DInv l Ds vals a0 b w0 g L a w) (hi : i ∈ Region.ready .any l.toArray L) :
    wpOp P l.toArray Q i (fun a' w' => ∃ g, DInv l Ds vals a0 b w0 g (L.setIfInBounds i true) a' w') a w := by
  simp only [defB, Bool.and_eq_true, decide_eq_true_eq] at hB
  obtain ⟨⟨⟨⟨⟨⟨⟨hsel, hnd⟩, hall⟩, hlt⟩, htopo⟩, hvals⟩, hdv⟩, hdst⟩ := hB
  obtain ⟨hun, o', h2, h3⟩ := mem_ready.1 hi
  rw [nth_arr] at h2
  have hil : i < l.length := by
    rw [nth_eq] at h2
    exact (List.getElem?_eq_some_iff.1 h2).1
  have hiL : i < L.size := by rw [hI.size]; exact hil
  have hfalse : L.getD i false = false := by simp [hiL] at hun ⊢; exact hun
  have hsza : ∀ o ∈ l, ∀ d, o.dst = some d → d < a.tmps.size := fun o ho d hd => by rw [hI.ts]; exact hsz o ho d hd
  have hiT : i ∈ orderD N Ds := by simpa using (List.all_eq_true.1 hall) i (List.mem_range.2 hil)
  have hndN : N.Nodup := by
    unfold orderD at hnd
    exact (List.nodup_append.1 (List.nodup_append.1 hnd).1).1
  have hslots := trace_slots hdst N a0 b ht hndN hsz
  have hopk : l.toArray[i]? = some o' := by rw [nth_arr]; exact h2
  have hvalN : ∀ j ∈ N, val Ds vals g j = vals j := by
    intro j hj
    unfold val
    rw [if_neg]
    intro hc
    unfold orderD at hnd
    exact (List.nodup_append.1 (List.nodup_append.1 hnd).1).2.2 _ hj _ (by simpa using hc) rfl
  unfold orderD at hiT
  rw [List.append_assoc] at hiT
  rcases List.mem_append.1 hiT with hN | hiT
  · -- an operation that yields
    obtain ⟨k, hk⟩ := List.mem_iff_getElem?.1 hN
    obtain ⟨o, ho, hg, hreads⟩ := valsB_split N [] hvals k i hk
    rw [h2] at ho; cases ho
    have hsplit : N = N.take k ++ i :: N.drop (k + 1) := by
      have h5 := (List.getElem?_eq_some_iff.1 hk)
      obtain ⟨h6, h7⟩ := h5
      have := (List.take_append_drop k N).symm
      rwa [List.drop_eq_getElem_cons h6, h7] at this
    have ht' := ht
    rw [hsplit] at ht'
    obtain ⟨bi, ht1, o2, ho2, hy, _⟩ := TraceV.split _ _ _ _ ht'
    rw [h2] at ho2; cases ho2
    have hpre : (N.take k).Nodup := by rw [hsplit] at hndN; exact (List.nodup_append.1 hndN).1
    have hbi := trace_slots hdst (N.take k) a0 bi ht1 hpre hsz
    have hsame := reads_same h2 hi (by simpa using hreads) (fun j hj => hvalN j (List.mem_of_mem_take hj)) hI.f1 hI.f2 hbi.1 hbi.2
    have hex : execOp a.eval o' = execOp bi.eval o' := execOp_congr o' (noSel_spec hsel h2) (fun x hx => hsame x (by simpa using hx))
    have hyw := hy w hI.bel
    unfold YieldsB at hyw
    rw [← hex] at hyw
    have hfr := frame_step hdst hiL h2 hsza (r := val Ds vals g) (r' := val Ds vals g) (fun _ _ _ => rfl) hI.f1 hI.f2
    rw [hvalN i hN] at hfr
    have fin : ∀ w', Below w.heap.size w w' → ∃ g, DInv l Ds vals a0 b w0 g (L.setIfInBounds i true) (a.put o'.dst (vals i)) w' := by
      intro w' hb
      have hni : ∀ D ∈ Ds, D.ia ≠ i ∧ D.is ≠ i := by
        intro D hD'
        unfold orderD at hnd
        rw [List.append_assoc] at hnd
        have := (List.nodup_append.1 hnd).2.2 i hN
        exact ⟨fun e => this D.ia (List.mem_append_left _ (List.mem_map.2 ⟨D, hD', rfl⟩)) e.symm, fun e => this D.is (List.mem_append_right _ (List.mem_map.2 ⟨D, hD', rfl⟩)) e.symm⟩
      refine ⟨g, ⟨by simpa using hI.size, by rw [size_put]; exact hI.ts, ?_, hfr.1, hfr.2, bel_then hI.bel hb, fun D hD' hL => ?_, fun D hD' E hE hL hL' => ?_, fun D hD' hL => ?_⟩⟩
      · rw [← hI.df]; cases o'.dst <;> rfl
      · rw [getD_set hiL, if_neg (hni D hD').1] at hL
        rw [getD_set hiL, if_neg (hni D hD').2]
        exact ⟨(hI.blk D hD' hL).1, (hI.blk D hD' hL).2.bel hb⟩
      · rw [getD_set hiL, if_neg (hni D hD').1] at hL
        rw [getD_set hiL, if_neg (hni E hE).1] at hL'
        exact hI.ne D hD' E hE hL hL'
      · rw [getD_set hiL, if_neg (hni D hD').2] at hL
        rw [getD_set hiL, if_neg (hni D hD').1]
        exact hI.ord D hD' hL
    unfold wpOp
    simp only [hopk]
    rw [if_pos (by unfold Region.wanted; rw [hg])]
    left
    unfold Oper.wp
    generalize (execOp a.eval o').run P w = r at hyw
    cases r with
    | halt x w' => exact hyw.elim
    | ok n w' =>
      cases n <;> simp only [Oper.upon] at hyw ⊢
      all_goals first
        | (obtain ⟨rfl, hb⟩ := hyw; exact fin _ hb)
        | (obtain ⟨e1, hb⟩ := hyw; rw [e1]; exact fin _ hb)
        | (refine Calls.mono hyw fun e w'' he => ?_
           obtain ⟨rfl, hb⟩ := he
           exact fin _ hb)
        | exact Rows.mono hyw fun u w'' he => by obtain ⟨rfl, hb⟩ := he; exact fin _ hb
  · have hndA : (Ds.map (·.ia)).Nodup ∧ (Ds.map (·.is)).Nodup ∧ (∀ x ∈ Ds.map (·.ia), ∀ y ∈ Ds.map (·.is), x ≠ y) := by
      unfold orderD at hnd
      rw [List.append_assoc] at hnd
      have := List.nodup_append.1 (List.nodup_append.1 hnd).2.1
      exact ⟨this.1, this.2.1, this.2.2⟩
    have hinj : ∀ D ∈ Ds, ∀ E ∈ Ds, D.ia = E.ia → D = E := by
      have key : ∀ (R : List Dv), (R.map (·.ia)).Nodup → ∀ D ∈ R, ∀ E ∈ R, D.ia = E.ia → D = E := by
        intro R
        induction R with
        | nil => intro _ D h; cases h
        | cons X R ih =>
          intro hn D hD' E hE e
          rw [List.map_cons] at hn
          obtain ⟨n1, n2⟩ := List.nodup_cons.1 hn
          rcases List.mem_cons.1 hD' with h1 | h1 <;> rcases List.mem_cons.1 hE with h2 | h2
          · rw [h1, h2]
          · exact absurd (List.mem_map.2 ⟨E, h2, by rw [← e, h1]⟩) n1
          · exact absurd (List.mem_map.2 ⟨D, h1, by rw [e, h2]⟩) n1
          · exact ih n2 D h1 E h2 e
      exact key Ds hndA.1
    have hinjS : ∀ D ∈ Ds, ∀ E ∈ Ds, D.is = E.is → D = E := by
      have key : ∀ (R : List Dv), (R.map (·.is)).Nodup → ∀ D ∈ R, ∀ E ∈ R, D.is = E.is → D = E := by
        intro R
        induction R with
        | nil => intro _ D h; cases h
        | cons X R ih =>
          intro hn D hD' E hE e
          rw [List.map_cons] at hn
          obtain ⟨n1, n2⟩ := List.nodup_cons.1 hn
          rcases List.mem_cons.1 hD' with h1 | h1 <;> rcases List.mem_cons.1 hE with h2 | h2
          · rw [h1, h2]
          · exact absurd (List.mem_map.2 ⟨E, h2, by rw [← e, h1]⟩) n1
          · exact absurd (List.mem_map.2 ⟨D, h1, by rw [e, h2]⟩) n1
          · exact ih n2 D h1 E h2 e
      exact key Ds hndA.2.1
    rcases List.mem_append.1 hiT with hA | hS
    · -- a new variable
      obtain ⟨D, hDm, rfl⟩ := List.mem_map.1 hA
      have hdvD := (List.all_eq_true.1 hdv) D hDm
      simp only [dvB, h2, Bool.and_eq_true] at hdvD
      obtain ⟨⟨⟨hg, hdd⟩, hop⟩, _⟩ := hdvD
      have hg' : o'.guard = none := by simpa using hg
      have hdd' : o'.dst = some D.d := by simpa using hdd
      have hop' : o'.op = .alloc D.ty := by
        revert hop
        cases o'.op <;> intro hop <;> simp at hop
        rw [hop]
      obtain ⟨⟨zv, hz1, hz2⟩, -⟩ := hD D hDm
      have hrun := run_alloc (P := P) w D.ty hz1 hz2
      let g' : Nat → Nat := fun k => if k = D.ia then w.heap.size else g k
      have hg1 : g' D.ia = w.heap.size := if_pos rfl
      have hg2 : ∀ k, k ≠ D.ia → g' k = g k := fun k hk => if_neg hk
      have hv1 : val Ds vals g' D.ia = ptr w.heap.size := by
        unfold val
        rw [if_pos (by simpa using hA), hg1]
      have hv2 : ∀ j, j ≠ D.ia → L.getD j false = true → val Ds vals g' j = val Ds vals g j := by
        intro j hj _
        unfold val
        rw [hg2 j hj]
      have hfr := frame_step hdst hiL h2 hsza (r := val Ds vals g) (r' := val Ds vals g') hv2 hI.f1 hI.f2
      rw [hv1] at hfr
      have hsne : ∀ E ∈ Ds, E.is ≠ D.ia := fun E hE e => hndA.2.2 _ (List.mem_map.2 ⟨D, hDm, rfl⟩) _ (List.mem_map.2 ⟨E, hE, rfl⟩) e.symm
      unfold wpOp
      simp only [hopk]
      rw [if_pos (by unfold Region.wanted; rw [hg'])]
      left
      unfold Oper.wp execOp
      simp only [hop', Sem.run_bind, hrun, Result.andThen_ok]
      refine ⟨g', ⟨by simpa using hI.size, by rw [size_put]; exact hI.ts, ?_, hfr.1, hfr.2, bel_then hI.bel (bel1 w _), fun E hE hL => ?_, fun E hE F hF hL hL' hne => ?_, fun E hE hL => ?_⟩⟩
      · rw [← hI.df, hdd']; rfl
      · rw [getD_set hiL, if_neg (hsne E hE)]
        by_cases e : E.ia = D.ia
        · obtain rfl := hinj E hE D hDm e
          rw [hg1]
          have hns : L.getD E.is false = false := by
            cases hc : L.getD E.is false with
            | false => rfl
            | true => rw [hI.ord E hE hc] at hfalse; cases hfalse
          rw [hns]
          exact ⟨hI.bel.size, At.new w E.z E.ty⟩
        · rw [getD_set hiL, if_neg e] at hL
          rw [hg2 _ e]
          exact ⟨(hI.blk E hE hL).1, (hI.blk E hE hL).2.old _⟩
      · rw [getD_set hiL] at hL hL'
        by_cases e : E.ia = D.ia
        · have e' : F.ia ≠ D.ia := fun h => hne (e.trans h.symm)
          rw [if_neg e'] at hL'
          rw [e, hg1, hg2 _ e']
          exact fun h => Nat.ne_of_gt (hI.blk F hF hL').2.lt h
        · rw [if_neg e] at hL
          rw [hg2 _ e]
          by_cases e' : F.ia = D.ia
          · rw [e', hg1]
            exact fun h => Nat.ne_of_lt (hI.blk E hE hL).2.lt h
          · rw [if_neg e'] at hL'
            rw [hg2 _ e']
            exact hI.ne E hE F hF hL hL' hne
      · rw [getD_set hiL, if_neg (hsne E hE)] at hL
        rw [getD_set hiL]
        split
        · rfl
        · exact hI.ord E hE hL
    · -- a store
      obtain ⟨D, hDm, rfl⟩ := List.mem_map.1 hS
      have hdvD := (List.all_eq_true.1 hdv) D hDm
      simp only [dvB, h2, Bool.and_eq_true] at hdvD
      obtain ⟨hal, ⟨⟨⟨⟨hg, hdd⟩, hbi⟩, hrd⟩, hop⟩⟩ := hdvD
      have hg' : o'.guard = none := by simpa using hg
      have hdd' : o'.dst = none := by simpa using hdd
      have hop' : o'.op = .store D.ty (.tmp D.d) (.tmp D.y) := by
        revert hop
        cases o'.op with
        | store t x y =>
          cases x <;> cases y <;> intro hop <;> simp at hop
          obtain ⟨⟨rfl, rfl⟩, rfl⟩ := hop
          rfl
        | _ => intro hop; simp at hop
      have hLa : L.getD D.ia false = true := ready_binds hi h2 hbi
      have hdia : dstOf l D.ia = some D.d := by
        unfold dstOf
        cases hoa : nth l D.ia with
        | none => rw [hoa] at hal; simp at hal
        | some oa =>
          rw [hoa] at hal
          simp only [Bool.and_eq_true] at hal
          show oa.dst = some D.d
          simpa using hal.1.2
      have hpt : a.eval (.tmp D.d) = ptr (g D.ia) := by
        have := hI.f1 D.ia hLa D.d hdia
        unfold val at this
        rw [if_pos (by simpa using List.mem_map.2 ⟨D, hDm, rfl⟩)] at this
        simp [Act.eval, this]
      have hyv : a.eval (.tmp D.y) = b.eval (.tmp D.y) := reads_same h2 hi hrd hvalN hI.f1 hI.f2 hslots.1 hslots.2 _ (by simp)
      have hby : (b.eval (.tmp D.y)).cells = stored b D := rfl
      obtain ⟨hge, hat⟩ := hI.blk D hDm hLa
      rw [hfalse] at hat
      simp only [Bool.false_eq_true, if_false] at hat
      obtain ⟨-, hi1, hi2, hi3⟩ := hD D hDm
      have hrun := run_store_any (P := P) hat D.ty (b.eval (.tmp D.y)) (by rw [hby]; exact hi1) (by rw [hby]; exact hi2) (by rw [hby]; exact hi3)
      rw [hby] at hrun
      have hfr := frame_step hdst hiL h2 hsza (r := val Ds vals g) (r' := val Ds vals g) (fun _ _ _ => rfl) hI.f1 hI.f2
      have hput : ∀ v, a.put o'.dst v = a := fun v => by rw [hdd']; rfl
      rw [hput] at hfr
      have hsne : ∀ E ∈ Ds, E.ia ≠ D.is := fun E hE e => hndA.2.2 _ (List.mem_map.2 ⟨E, hE, rfl⟩) _ (List.mem_map.2 ⟨D, hDm, rfl⟩) e
      unfold wpOp
      simp only [hopk]
      rw [if_pos (by unfold Region.wanted; rw [hg'])]
      left
      unfold Oper.wp execOp
      simp only [hop', hpt, hyv, Sem.run_bind, hrun, Result.andThen_ok]
      show ∃ g, DInv l Ds vals a0 b w0 g (L.setIfInBounds D.is true) (a.put o'.dst undef) _
      rw [hput]
      refine ⟨g, ⟨by simpa using hI.size, hI.ts, hI.df, hfr.1, hfr.2, ?_, fun E hE hL => ?_, fun E hE F hF hL hL' hne => ?_, fun E hE hL => ?_⟩⟩
      · exact hI.bel.trans ⟨rfl, rfl, rfl, by simp [World.setRow], fun k hk => setRow_other w (g D.ia) k _ (by omega)⟩
      · rw [getD_set hiL, if_neg (hsne E hE)] at hL
        rw [getD_set hiL]
        by_cases e : E.is = D.is
        · obtain rfl := hinjS E hE D hDm e
          rw [if_pos rfl]
          exact ⟨hge, setRow_at hat _⟩
        · rw [if_neg e]
          have hne : E.ia ≠ D.ia := fun h => e (by rw [hinj E hE D hDm h])
          exact ⟨(hI.blk E hE hL).1, (setRow_other w (g D.ia) (g E.ia) _ (hI.ne E hE D hDm hL hLa hne)).trans (hI.blk E hE hL).2⟩
      · rw [getD_set hiL, if_neg (hsne E hE)] at hL
        rw [getD_set hiL, if_neg (hsne F hF)] at hL'
        exact hI.ne E hE F hF hL hL' hne
      · rw [getD_set hiL, if_neg (hsne E hE)]
        rw [getD_set hiL] at hL
        by_cases e : E.is = D.is
        · obtain rfl := hinjS E hE D hDm e
          exact hLa
        · rw [if_neg e] at hL
          exact hI.ord E hE hL

theorem rep_false (n i : Nat) : (Array.replicate n false).getD i false = false := by
  rw [Array.getD_eq_getD_getElem?, Array.getElem?_replicate]
  split <;> rfl

/-- behind the region: a later world, new variables that hold what was stored. -/
def DefPost (Q : Exit → Act → World → Prop) (Ds : List Dv) (w0 : World) (b : Act) : Prop :=
  (∀ D ∈ Ds, DvOk P b D) ∧ ∀ (gs : List Nat) (w' : World), gs.length = Ds.length → Below w0.heap.size w0 w' → (∀ g ∈ gs, w0.heap.size ≤ g) → Sep w' (List.zipWith (fun g D => (g, stored b D, D.ty)) gs Ds) → Q .normal ⟨setMany b.tmps (Ds.map (·.d)) (gs.map ptr), b.defers⟩ w'

theorem setMany_size : ∀ (ds : List Nat) (vs : List Value) (t : Array Value), (setMany t ds vs).size = t.size
  | [], vs, t => by cases vs <;> rfl
  | d :: ds, [], t => rfl
  | d :: ds, v :: vs, t => by rw [setMany, setMany_size ds vs]; simp

theorem setMany_other : ∀ (ds : List Nat) (vs : List Value) (t : Array Value) (k : Nat), k ∉ ds → (setMany t ds vs)[k]? = t[k]?
  | [], vs, t, k, _ => by cases vs <;> rfl
  | d :: ds, [], t, k, _ => rfl
  | d :: ds, v :: vs, t, k, h => by
    rw [setMany, setMany_other ds vs _ k (fun hh => h (List.mem_cons_of_mem _ hh))]
    exact Array.getElem?_setIfInBounds_ne (fun e => h (by rw [← e]; exact List.mem_cons_self ..))

theorem setMany_at : ∀ (Ds : List Dv) (f : Dv → Value) (t : Array Value), (Ds.map (·.d)).Nodup → (∀ D ∈ Ds, D.d < t.size) → ∀ D ∈ Ds, (setMany t (Ds.map (·.d)) (Ds.map f))[D.d]? = some (f D)
  | [], f, t, _, _, D, h => (List.not_mem_nil h).elim
  | X :: Ds, f, t, hn, hs, D, h => by
    rw [List.map_cons, List.map_cons, setMany]
    rw [List.map_cons] at hn
    obtain ⟨n1, n2⟩ := List.nodup_cons.1 hn
    rcases List.mem_cons.1 h with rfl | h
    · rw [setMany_other _ _ _ _ n1]
      simp [hs D (List.mem_cons_self ..)]
    · exact setMany_at Ds f _ n2 (fun E hE => by simpa using hs E (List.mem_cons_of_mem _ hE)) D h

/-- THE LAW. -/
theorem wp_region_def {id : Nat} {a : Act} {w : World} (sched : List (List Nat × Nat)) (fin : List Nat) (Ds : List Dv) (hm : P.follows .mixedOrders = true) (hB : defB l (orderOf sched fin) Ds = true)
    (hS : sched.all (fun s => plainB l true s.1 && plainB l false [s.2]) = true) (hF : plainB l true fin = true) (hsz : l.all (fun o => match o.dst with | some d => decide (d < a.tmps.size) | none => true) = true)
    (h : ∀ wd, Below w.heap.size w wd → wpDefW P l (fun w' => ∃ x : Later (Below wd.heap.size wd), w' = x.w) (DefPost (P := P) Q Ds wd) sched fin a) : (Code.region id l.toArray true).wp P Q a w := by
  have hsz' : ∀ o ∈ l, ∀ d, o.dst = some d → d < a.tmps.size := by
    intro o ho d hd
    have := (List.all_eq_true.1 hsz) o ho
    rw [hd] at this
    simpa using this
  have hB' := hB
  simp only [defB, Bool.and_eq_true, decide_eq_true_eq] at hB'
  obtain ⟨⟨⟨⟨⟨⟨⟨hsel, hnd⟩, hall⟩, hlt⟩, htopo⟩, hvals⟩, hdv⟩, hdst⟩ := hB'
  have hndN : (orderOf sched fin).Nodup := by
    unfold orderD at hnd
    exact (List.nodup_append.1 (List.nodup_append.1 hnd).1).1
  refine wp_region_held (S := fun _ => True) hm ?_
  have hw := h w.drew (Below.refl _ _).drew
  obtain ⟨vals, b, ht, hD, hk⟩ := def_trace (C := fun w' => ∃ x : Later (Below w.drew.heap.size w.drew), w' = x.w) ⟨w.drew, ⟨w.drew, Below.refl _ _⟩, rfl⟩ sched fin a (fun s hs => by
    have := (List.all_eq_true.1 hS) s hs
    simpa using this) hF hndN hsz' hw
  have ht' : TraceV P l (Below w.drew.heap.size w.drew) vals (orderOf sched fin) a b := by
    have key : ∀ (is : List Nat) (a b : Act), TraceV P l (fun w' => ∃ x : Later (Below w.drew.heap.size w.drew), w' = x.w) vals is a b → TraceV P l (Below w.drew.heap.size w.drew) vals is a b := by
      intro is
      induction is with
      | nil => intro a b h; exact h
      | cons i is ih =>
        intro a b ⟨o, h1, h2, h3⟩
        exact ⟨o, h1, fun w1 hw1 => h2 w1 ⟨⟨w1, hw1⟩, rfl⟩, ih _ _ h3⟩
    exact key _ _ _ ht
  refine any_inv (Inv := fun L a' w' => ∃ g, DInv l Ds vals a b w.drew g L a' w') ?_ ?_ _ _ _ _ ?_ (by simp) ?_
  · -- the end
    rintro L a' w' ⟨g, hI⟩ hr
    have hdone := all_done hI.size hr _ _ htopo (fun i h => (List.not_mem_nil h).elim) (fun i hi => by simpa using (List.all_eq_true.1 hlt) i hi)
    have hslots := trace_slots hdst _ a b ht' hndN hsz'
    have hbs := TraceV.size _ _ _ ht'
    have hmemA : ∀ D ∈ Ds, D.ia ∈ orderD (orderOf sched fin) Ds := fun D hD' => by
      unfold orderD
      rw [List.append_assoc]
      exact List.mem_append_right _ (List.mem_append_left _ (List.mem_map.2 ⟨D, hD', rfl⟩))
    have hmemS : ∀ D ∈ Ds, D.is ∈ orderD (orderOf sched fin) Ds := fun D hD' => by
      unfold orderD
      exact List.mem_append_right _ (List.mem_map.2 ⟨D, hD', rfl⟩)
    have hdia : ∀ D ∈ Ds, dstOf l D.ia = some D.d := by
      intro D hDm
      have hdvD := (List.all_eq_true.1 hdv) D hDm
      unfold dvB at hdvD
      simp only [Bool.and_eq_true] at hdvD
      have hal := hdvD.1
      unfold dstOf
      cases hoa : nth l D.ia with
      | none => rw [hoa] at hal; simp at hal
      | some oa =>
        rw [hoa] at hal
        simp only [Bool.and_eq_true] at hal
        show oa.dst = some D.d
        simpa using hal.1.2
    have hdlt : ∀ D ∈ Ds, D.d < b.tmps.size := by
      intro D hDm
      rw [hbs.1]
      have h1 := hdia D hDm
      unfold dstOf at h1
      cases ho : nth l D.ia with
      | none => rw [ho] at h1; cases h1
      | some o =>
        rw [ho] at h1
        exact hsz' o (by rw [nth_eq] at ho; exact List.mem_of_getElem? ho) D.d h1
    have hiaN : (Ds.map (·.ia)).Nodup := by
      unfold orderD at hnd
      exact (List.nodup_append.1 (List.nodup_append.1 hnd).1).2.1
    have hdN : (Ds.map (·.d)).Nodup := by
      have key : ∀ (R : List Dv), (∀ D ∈ R, dstOf l D.ia = some D.d) → (R.map (·.ia)).Nodup → (R.map (·.d)).Nodup := by
        intro R
        induction R with
        | nil => intro _ _; exact List.Pairwise.nil
        | cons X R ih =>
          intro hR hn
          rw [List.map_cons] at hn ⊢
          obtain ⟨n1, n2⟩ := List.nodup_cons.1 hn
          refine List.nodup_cons.2 ⟨fun hm => ?_, ih (fun D h => hR D (List.mem_cons_of_mem _ h)) n2⟩
          obtain ⟨Y, hY, e⟩ := List.mem_map.1 hm
          have e2 := dst_inj hdst (hR X (List.mem_cons_self ..)) (by rw [hR Y (List.mem_cons_of_mem _ hY), e])
          exact n1 (List.mem_map.2 ⟨Y, hY, e2.symm⟩)
      exact key Ds hdia hiaN
    have hframe : a' = ⟨setMany b.tmps (Ds.map (·.d)) ((Ds.map fun D => g D.ia).map ptr), b.defers⟩ := by
      have e1 : a'.tmps = setMany b.tmps (Ds.map (·.d)) (Ds.map fun D => ptr (g D.ia)) := by
        apply Array.ext_getElem?
        intro k
        by_cases hk : k ∈ Ds.map (·.d)
        · obtain ⟨D, hDm, rfl⟩ := List.mem_map.1 hk
          rw [setMany_at Ds (fun D => ptr (g D.ia)) b.tmps hdN hdlt D hDm, hI.f1 D.ia (hdone _ (hmemA D hDm)) D.d (hdia D hDm)]
          unfold val
          rw [if_pos (by simpa using List.mem_map.2 ⟨D, hDm, rfl⟩)]
        · rw [setMany_other _ _ _ _ hk]
          by_cases hex : ∃ i ∈ orderOf sched fin, dstOf l i = some k
          · obtain ⟨i, hi, hik⟩ := hex
            have hiO : i ∈ orderD (orderOf sched fin) Ds := by
              unfold orderD
              rw [List.append_assoc]
              exact List.mem_append_left _ hi
            rw [hI.f1 i (hdone i hiO) k hik, hslots.1 i hi k hik]
            unfold val
            rw [if_neg]
            intro hc
            unfold orderD at hnd
            exact (List.nodup_append.1 (List.nodup_append.1 hnd).1).2.2 _ hi _ (by simpa using hc) rfl
          · rw [hslots.2 k (fun i hi e => hex ⟨i, hi, e⟩), hI.f2 k]
            intro i hi e
            have hil : i < l.length := by
              unfold dstOf at e
              rw [nth_eq] at e
              rcases Nat.lt_or_ge i l.length with h | h
              · exact h
              · rw [List.getElem?_eq_none h] at e; cases e
            have hiT : i ∈ orderD (orderOf sched fin) Ds := by simpa using (List.all_eq_true.1 hall) i (List.mem_range.2 hil)
            unfold orderD at hiT
            rw [List.append_assoc] at hiT
            rcases List.mem_append.1 hiT with h1 | h1
            · exact hex ⟨i, h1, e⟩
            · rcases List.mem_append.1 h1 with h1 | h1
              · obtain ⟨D, hDm, rfl⟩ := List.mem_map.1 h1
                rw [hdia D hDm] at e
                cases e
                exact hk (List.mem_map.2 ⟨D, hDm, rfl⟩)
              · obtain ⟨D, hDm, rfl⟩ := List.mem_map.1 h1
                have hdvD := (List.all_eq_true.1 hdv) D hDm
                unfold dvB at hdvD
                simp only [Bool.and_eq_true] at hdvD
                have hst := hdvD.2
                unfold dstOf at e
                cases hos : nth l D.is with
                | none => rw [hos] at e; cases e
                | some os =>
                  rw [hos] at hst e
                  simp only [Bool.and_eq_true] at hst
                  have h5 : os.dst = none := by simpa using hst.1.1.1.2
                  have e6 : os.dst = some k := e
                  rw [h5] at e6; cases e6
      cases a' with
      | mk t d =>
        have e2 : d = b.defers := hI.df.trans hbs.2.symm
        simp only at e1
        rw [e1, e2, List.map_map]
        rfl
    rw [hframe]
    refine hk (Ds.map fun D => g D.ia) w' (by simp) hI.bel (fun x hx => ?_) ?_
    · obtain ⟨D, hDm, rfl⟩ := List.mem_map.1 hx
      exact (hI.blk D hDm (hdone _ (hmemA D hDm))).1
    · have key : ∀ (R : List Dv), (∀ D ∈ R, D ∈ Ds) → (R.map (·.ia)).Nodup → Sep w' (List.zipWith (fun g D => (g, stored b D, D.ty)) (R.map fun D => g D.ia) R) := by
        intro R
        induction R with
        | nil => intro _ _; exact Sep.nil _
        | cons X R ih =>
          intro hR hn
          rw [List.map_cons] at hn
          obtain ⟨n1, n2⟩ := List.nodup_cons.1 hn
          have hX := hR X (List.mem_cons_self ..)
          have hb := (hI.blk X hX (hdone _ (hmemA X hX))).2
          rw [hdone _ (hmemS X hX)] at hb
          simp only [if_true] at hb
          refine (ih (fun D h => hR D (List.mem_cons_of_mem _ h)) n2).cons hb (fun e he => ?_)
          rw [List.zipWith_map_left, List.zipWith_self] at he
          obtain ⟨Y, hY, rfl⟩ := List.mem_map.1 he
          have hY' := hR Y (List.mem_cons_of_mem _ hY)
          exact hI.ne X hX Y hY' (hdone _ (hmemA X hX)) (hdone _ (hmemA Y hY')) (fun e => n1 (List.mem_map.2 ⟨Y, hY, e.symm⟩))
      exact key Ds (fun _ h => h) hiaN
  · rintro L a' w' i ⟨g, hI⟩ hi
    exact def_step hB hsz' ht' hD L a' w' i g hI hi
  · refine ⟨fun _ => 0, ⟨by simp, rfl, rfl, fun i hi => ?_, fun _ _ => rfl, Below.refl _ _, fun D _ hq => ?_, fun D _ E _ hq => ?_, fun D _ hq => ?_⟩⟩
    · rw [rep_false] at hi; cases hi
    · rw [rep_false] at hq; cases hq
    · rw [rep_false] at hq; cases hq
    · rw [rep_false] at hq; cases hq
  · simp

end

end Go.Proofs.Ytkeaogphaifnmaa
