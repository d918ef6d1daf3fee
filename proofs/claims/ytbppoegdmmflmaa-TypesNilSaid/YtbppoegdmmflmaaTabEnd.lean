/- A table of types: a record is ended; a type is told. -/
import Derived.Test.YtbppoegdmmflmaaTabPut
namespace Go.Proofs.Ytbppoegdmmflmaa
set_option linter.unusedVariables false
set_option linter.unusedSimpArgs false
open Go.RowKit

def endB (n : Int) : Int := if upB n > 4 then upB n else 4

set_option maxRecDepth 20000 in
set_option maxHeartbeats 8000000 in
theorem end_walk {B : Nat} {w : World} {g : Nat} {L : List Ty} {nf : Int} {R : List Row} (T : Tab B w g L nf R) (hB : B ≤ w.heap.size) {r : Nat} {t : Ty} (hr : L[r]? = some t) (hr1 : 1 ≤ r) (hf : t.form = 2) (ht : 0 ≤ t.size ∧ t.size ≤ 262144) :
    Calls Try.prog 24 #[.pointer (some ⟨g, 0, none⟩), .int .i64 r] w fun e w' => e = .returned (.int .i64 0) ∧
      Tab B w' g (L.set r ⟨t.form, t.base, t.len, endB t.size, t.fa, t.fn, t.fc, t.mod, t.ref⟩) nf R ∧ Below B w w' := by
  have hrl : r < L.length := (List.getElem?_eq_some_iff.1 hr).1
  have T0 := T
  obtain ⟨hg, h, cap, cs, hh, S, r2⟩ := T0
  have HS := Lib.hid S
  have HR2 := Lib.hid r2
  have HRR := Lib.hid hr
  have HM := Lib.hid (made_walk T (r : Int) 2)
  rw [made_yes hr hr1 hf] at HM
  have l1 : (0 : Int) ≤ r := by omega
  have l2 : (r : Int) < L.length := by omega
  clear T S r2 hr
  go_enter Try.func24, Try.ntmps24
  go_wp2_with fail
  refine HM.out.mono ?_
  rintro e w1 ⟨rfl, rfl⟩
  go_wp2_with fail
  refine wp_region_tail [([0, 1, 2, 3, 4, 5, 6, 7, 8, 9, 10, 11, 12], 13)] [14, 15, 16] 17 [16, 15, 14, 13, 12, 11, 10, 9, 8, 7, 6, 5, 4, 3, 2, 1, 0] (by kernel_rfl) (by kernel_rfl) (fun _ _ d _ _ h => by cases d <;> exact h) ?_
  intro w2 hb2
  have S2 := HS.out.bel hb2
  have q0 := (S2.at 0 rfl).laterCellB (v := .slice (some ⟨h, 0, none⟩) L.length cap) 0 rfl
  have q1 := (S2.at 1 rfl).laterCellB (v := .int .i64 t.size) (r * 7 + 3) (HR2.out.at HRR.out 3 rfl)
  refine mixT_step ?_
  simp only [pickOps, nth]
  (repeat (go_big_quiet_step (fail)))
  refine wpQuiet_nil ?_
  have HS2 := Lib.hid S2
  have HB2 := Lib.hid hb2
  clear q0 q1 S2 hb2
  go_wp2_with fail
  refine (up_walk t.size _ ⟨ht.1, by omega⟩).mono ?_
  rintro e w3 ⟨rfl, rfl⟩
  go_wp2_with fail
  refine ⟨Below.refl _ _, mixT_end ?_⟩
  simp only [pickOps, nth]
  haveI : Nonempty World := ⟨w3⟩
  (repeat (go_big_quiet_step (fail)))
  refine wpQuiet_nil ?_
  obtain ⟨ev, hev⟩ : ∃ ev, ev = endB t.size := ⟨_, rfl⟩
  rw [show (if upB t.size > 4 then upB t.size else (4 : Int)) = ev from hev.symm]
  have HE := Lib.hid hev
  clear hev
  have HJ := Lib.hid (show decide (r * 7 + 3 < cs.size) = true from decide_eq_true (HR2.out.lt hrl (by decide)))
  refine store1_sep rfl 3 (.tmp 25) (.tmp 23) rfl HS2.out 1 rfl rfl rfl HJ.out (by kernel_rfl) rfl ?_
  intro w5 S5 k5 s5
  have HS5 := Lib.hid S5
  have HK5 := Lib.hid k5
  clear S5 k5 s5
  go_wp2_with fail
  go_ret
  rw [← HE.out]
  refine ⟨rfl, ⟨hg, h, cap, cs.setIfInBounds (r * 7 + 3) (.int .i64 ev), hh, by rw [List.length_set]; exact HS5.out, ?_⟩, ?_⟩
  · exact HR2.out.set HRR.out 3 (.int .i64 ev) (by decide) rfl
  · exact Below.ofKe ((Ke.below _ HB2.out).trans (HK5.out.mono (fun i _ e => by subst e; exact hh))) (fun _ h => h) hB

theorem RdC.empty (w : World) (a : Addr) : RdC w (some a) 0 0 [] := ⟨⟨0, 0, fun h => (by simp at h), fun j u h => (by simp at h)⟩, fun h => (by cases h), Nat.le_refl _, Nat.zero_le _⟩
theorem flds_one (F : List Fld) : ∀ u ∈ fldRow F, u.oneCell' = true := by
  intro u hu
  unfold fldRow at hu
  obtain ⟨f, _, hf⟩ := List.mem_flatMap.1 hu
  exact fld_one u hf

set_option maxHeartbeats 4000000 in
theorem clone_walk {w : World} {a : Option Addr} {n c : Nat} {F : List Fld} (hn : n = F.length) (hR : RdC w a F.length c (fldRow F)) (ha : a = none → F = []) (hlen : F.length ≤ 100) (h0 : a ≠ none → 0 < F.length) :
    Calls Try.prog 33 #[.slice a n c] w fun e w' => ∃ a' c', e = .returned (.slice a' F.length c') ∧ (∀ w'', Ke (fun i => i < w.heap.size) w' w'' → RdC w'' a' F.length c' (fldRow F)) ∧ Below w.heap.size w w' := by
  subst hn
  cases a with
  | none =>
    have hF := ha rfl
    subst hF
    obtain ⟨_, rfl⟩ := hR.nil rfl
    have HR := Lib.hid hR
    clear hR ha h0
    simp only [List.length_nil]
    have hq := fun w => Lib.run_eql_slice_nil (P := Try.prog) w 34 48 none 0 0 0 0 Try.underlying34
    go_enter Try.func33, Try.ntmps33
    go_wp2_with fail
    go_ret
    exact ⟨none, 0, rfl, fun w'' _ => RdC.nilSlice w'', Below.refl _ _⟩
  | some b =>
    have HR := Lib.hid hR
    have h1 := h0 (by simp)
    obtain ⟨bb, oo, h5, h6⟩ := hR.at'
    obtain ⟨h7, hbl⟩ := h5 (by rw [fldRow_len]; omega)
    simp only [Option.some.injEq] at h7
    subst h7
    have hq := fun w => Lib.run_eql_slice_nil (P := Try.prog) w 34 48 (some ⟨bb, oo, none⟩) F.length c 0 0 Try.underlying34
    have hz : (Lib.hid hR).out = hR := rfl
    clear hR h5 hz
    have S0 := (Sep.nil w).alloc #[] 48
    have hn : ∀ j u, (fldRow F)[j]? = some u → (w.alloc (.cells #[] 48)).cell? ((⟨bb, oo, none⟩ : Addr).add j) = some u := fun j u hj => by
      rw [Addr.add_lit]
      exact ((bel1 w _).cell (p := ⟨bb, oo + j, none⟩) hbl).trans (h6 j u hj)
    have HS0 := Lib.hid S0
    have HN := Lib.hid hn
    have HB0 := Lib.hid (bel1 w (.cells #[] 48))
    have HL1 := Lib.hid (show (0 + F.length) * 24 ≤ 140737488355328 by omega)
    have HL2 := Lib.hid (show 0 + F.length ≤ maxLen by unfold maxLen; omega)
    clear hn S0 h6 ha h0
    go_enter Try.func33, Try.ntmps33
    go_wp2_with (at_builtin; refine append_clip rfl (.tmp 5) (.tmp 6) et_fld rfl HS0.out (RdC.empty _ _) rfl rfl rfl HN.out (fldRow_len F) (flds_one F) h1 HL1.out HL2.out ?_; intro h' cap' cs' w7 S7 q3 q1 q2 q4 b7 hge)
    go_ret
    refine ⟨some ⟨h', 0, none⟩, cap', rfl, fun w8 k8 => ?_, bel_then HB0.out b7⟩
    have A8 := (S7.at 0 rfl).ke k8 (fun hh => by have := HB0.out.size; have hh' : h' < w.heap.size := hh; omega)
    refine ⟨⟨h', 0, fun _ => ⟨rfl, A8.lt⟩, fun j u hj => ?_⟩, fun h => (by cases h), by omega, q2⟩
    rw [Nat.zero_add, A8.cell]
    rw [Nat.zero_add, List.nil_append] at q4
    rw [← q4, List.getElem?_take] at hj
    split at hj
    · simpa using hj
    · cases hj

theorem load_ty {P : Program} {ops : Array Oper} {rest : List Oper} {o : Oper} {a : Act} {w : World} {Q : Exit → Act → World → Prop} (hgd : o.guard = none) (ty : TypeId) (x : Operand) (ho : o.op = .load ty x) {b q : Nat} {t : Ty} (hx : a.eval x = .pointer (some ⟨b, q, none⟩))
    (hc : ∀ j v, t.cells[j]? = some v → w.cell? ⟨b, q + j, none⟩ = some v) {d : TypeDesc} (hu : P.underlying ty = some d) (hd : d.isRow = true)
    (hi : (P.info? ty).map (·.size) = some 7) (h : wpList P ops Q rest (a.put o.dst t.val) w) : wpList P ops Q (o :: rest) a w :=
  wpList_load_mid hgd ty x ho b q hx t.cells d hc hu hd (by simpa [Ty.cells] using hi) (by simpa [Ty.cells, Ty.val] using h)

set_option maxRecDepth 20000 in
set_option maxHeartbeats 8000000 in
theorem get_walk {B : Nat} {w : World} {g : Nat} {L : List Ty} {nf : Int} {R : List Row} (T : Tab B w g L nf R) {r : Nat} {t : Ty} (hr : L[r]? = some t) (hr1 : 1 ≤ r) {F : List Fld} (hF : FlIn R t F) (hlen : F.length ≤ 100) :
    Calls Try.prog 18 #[.pointer (some ⟨g, 0, none⟩), .int .i64 r] w fun e w' => ∃ a' c', e = .returned (.tuple #[(Ty.mk t.form t.base t.len t.size a' F.length c' t.mod t.ref).val, .bool true]) ∧ RdC w' a' F.length c' (fldRow F) ∧ Below w.heap.size w w' := by
  have hrl : r < L.length := (List.getElem?_eq_some_iff.1 hr).1
  have T0 := T
  obtain ⟨hg, h, cap, cs, hh, S, r2⟩ := T0
  have HR2 := Lib.hid r2
  have l1 : (0 : Int) ≤ r := by omega
  have l2 : (r : Int) < L.length := by omega
  have H1 := (Sep.nil w).alloc Ty.none.cells.toArray 36
  have b1 := bel1 w (.cells Ty.none.cells.toArray 36)
  have T1 := T.bel b1
  have HI := Lib.hid (in_walk T1 (r : Int))
  rw [in_yes hrl hr1] at HI
  have S1 := S.bel b1
  have c0 : (w.alloc (.cells Ty.none.cells.toArray 36)).cell? ⟨g, 0, none⟩ = some (.slice (some ⟨h, 0, none⟩) L.length cap) := ((S1.at 0 rfl).cell 0).trans rfl
  have hc : ∀ j v, t.cells[j]? = some v → (w.alloc (.cells Ty.none.cells.toArray 36)).cell? ⟨h, r * 7 + j, none⟩ = some v := fun j v hv => ((S1.at 1 rfl).cell _).trans (r2.at hr j hv)
  have HC := Lib.hid hc
  have H2 := Lib.hid ((Sep.nil w).alloc2 Ty.none.cells.toArray Ty.none.cells.toArray 36 36)
  have hb2 := bel2 w (.cells Ty.none.cells.toArray 36) (.cells Ty.none.cells.toArray 36)
  have S2 := Lib.hid (S.bel hb2)
  have HB2 := Lib.hid hb2
  have HF := Lib.hid hF
  have HS := Lib.hid S
  clear T T1 S S1 r2 b1 hb2 hc H1 hF hr
  simp only [Ty.none, Ty.cells] at c0 HI
  go_enter Try.func18, Try.ntmps18
  go_wp2_with fail
  refine HI.out.mono ?_
  rintro e w1 ⟨rfl, rfl⟩
  go_wp2_with (first | (refine load_ty rfl 36 (.tmp 17) rfl rfl HC.out Try.underlying36 rfl (by kernel_rfl) ?_) | (refine store_sep rfl 36 (.tmp 6) (.tmp 18) rfl H2.out 0 rfl rfl rfl (by kernel_rfl) rfl ?_ ?_; rfl; intro w3 S3 k3 s3; clear s3; have c4 : w3.cell? ⟨w.heap.size + 1, 4, none⟩ = some (.slice t.fa t.fn t.fc) := ((S3.at 0 rfl).cell 4).trans rfl))
  have B3 := HB2.out.trans (Below.ofKe k3 (fun i e => by have e' : i = w.heap.size + 1 := e; omega) HB2.out.size)
  have hrd := HF.out.rd (HS.out.bel B3) (fun x hx => List.mem_cons_of_mem _ (List.mem_cons_of_mem _ hx)) (.inl rfl)
  have hcl := clone_walk HF.out.1 hrd (fun hh => by
    obtain ⟨_, ⟨_, _, e3⟩ | ⟨b, cs, e1, _⟩⟩ := HF.out
    · exact e3
    · rw [e1] at hh; cases hh) hlen (fun hh => by
    obtain ⟨_, ⟨e1, _⟩ | ⟨b, cs, _, e0, _⟩⟩ := HF.out
    · exact (hh e1).elim
    · exact e0)
  have HCl := Lib.hid hcl
  have HS3 := Lib.hid S3
  have HB3 := Lib.hid B3
  clear hcl hrd S3 B3 k3 c4
  refine HCl.out.mono ?_
  rintro e w4 ⟨a', c', rfl, hrd, hb4⟩
  have HRd := Lib.hid hrd
  have HS4 := Lib.hid (HS3.out.bel hb4)
  have HB4 := Lib.hid (bel_then HB3.out hb4)
  clear hrd hb4
  go_wp2_with (first | (refine store1_sep rfl 34 (.tmp 22) (.tmp 21) rfl HS4.out 0 rfl rfl rfl rfl (by kernel_rfl) rfl ?_; intro w5 S5 k5 s5; clear s5) | (refine load_sep rfl 36 (.tmp 6) rfl S5 0 rfl rfl Try.underlying36 rfl (by kernel_rfl) ?_) | (refine store_sep rfl 36 (.tmp 4) (.tmp 23) rfl S5 1 rfl rfl rfl (by kernel_rfl) rfl ?_ ?_; rfl; intro w6 S6 k6 s6; clear s6))
  refine bodyPost_ret (res_cell_tmp rfl rfl (S6.at 1 rfl) Try.underlying36 rfl (by kernel_rfl)) rfl ?_
  have K4 : Ke (fun i => w.heap.size ≤ i) w w6 := (Ke.below _ HB4.out).trans ((k5.mono (fun i _ e => by have e' : i = w.heap.size + 1 := e; omega)).trans (k6.mono (fun i _ e => by have e' : i = w.heap.size := e; omega)))
  have s3 := HS3.out.at 0 rfl
  have h3 := s3.lt
  refine ⟨a', c', rfl, HRd.out _ ?_, Below.ofKe K4 (fun _ h => h) (Nat.le_refl _)⟩
  exact (k5.mono (fun i _ e => by have e' : i = w.heap.size + 1 := e; show i < _; omega)).trans (k6.mono (fun i _ e => by have e' : i = w.heap.size := e; show i < _; omega))

end Go.Proofs.Ytbppoegdmmflmaa
