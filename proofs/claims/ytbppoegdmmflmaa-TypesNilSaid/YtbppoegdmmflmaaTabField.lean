/- A table of types: a field that is not there. -/
import Derived.Test.YtbppoegdmmflmaaTabNew
namespace Go.Proofs.Ytbppoegdmmflmaa
set_option linter.unusedVariables false
set_option linter.unusedSimpArgs false
open Go.RowKit

structure Fld where
  name : Int
  off : Int
  typ : Int
def Fld.cells (f : Fld) : List Value := [.int .i64 f.name, .int .i64 f.off, .int .i64 f.typ]
def Fld.val (f : Fld) : Value := .agg #[.int .i64 f.name, .int .i64 f.off, .int .i64 f.typ]
def fldRow (F : List Fld) : List Value := F.flatMap Fld.cells
theorem fldRow_len (F : List Fld) : (fldRow F).length = F.length * 3 := by
  induction F with
  | nil => rfl
  | cons x F ih => unfold fldRow at *; rw [List.flatMap_cons, List.length_append, ih]; simp [Fld.cells]; omega
theorem fldRow_at : ∀ (F : List Fld) (k : Nat) (t : Fld) (j : Nat) (u : Value), F[k]? = some t → t.cells[j]? = some u → (fldRow F)[k * 3 + j]? = some u
  | [], k, t, j, u, h, _ => by simp at h
  | x :: F, 0, t, j, u, h, hj => by
    simp at h; subst h
    have : j < 3 := by obtain ⟨h, _⟩ := List.getElem?_eq_some_iff.1 hj; simpa [Fld.cells] using h
    unfold fldRow
    rw [List.flatMap_cons, List.getElem?_append_left (by simp [Fld.cells]; omega)]
    simpa using hj
  | x :: F, k + 1, t, j, u, h, hj => by
    have := fldRow_at F k t j u (by simpa using h) hj
    unfold fldRow at *
    rw [List.flatMap_cons, List.getElem?_append_right (by simp [Fld.cells]; omega), ← this]
    congr 1
    simp [Fld.cells]; omega

set_option maxHeartbeats 2000000 in
theorem clos_walk (w : World) (f : Fld) (p : Nat) (nm : Int) (hp : w.cell? ⟨p, 0, none⟩ = some (.int .i64 nm)) (hpl : p < w.heap.size) :
    Calls Try.prog 39 #[f.val, .pointer (some ⟨p, 0, none⟩)] w fun e w' => e = .returned (.bool (f.name == nm)) ∧ Below w.heap.size w w' := by
  obtain ⟨n, o, t⟩ := f
  have hb := bel1 w (.cells #[.int .i64 n, .int .i64 o, .int .i64 t] 48)
  have hp2 := (hb.cell (p := ⟨p, 0, none⟩) hpl).trans hp
  have hb2 := Lib.hid hb
  clear hb hp
  unfold Fld.val
  dsimp only
  go_enter Try.func39, Try.ntmps39
  go_wp2_with fail
  go_ret
  exact ⟨rfl, hb2.out⟩

theorem load_fld {P : Program} {ops : Array Oper} {rest : List Oper} {o : Oper} {a : Act} {w : World} {Q : Exit → Act → World → Prop} (hgd : o.guard = none) (ty : TypeId) (x : Operand) (ho : o.op = .load ty x) {b q : Nat} {f : Fld} (hx : a.eval x = .pointer (some ⟨b, q, none⟩))
    (h0 : w.cell? ⟨b, q, none⟩ = some (.int .i64 f.name)) (h1 : w.cell? ⟨b, q + 1, none⟩ = some (.int .i64 f.off)) (h2 : w.cell? ⟨b, q + 2, none⟩ = some (.int .i64 f.typ)) {d : TypeDesc} (hu : P.underlying ty = some d) (hd : d.isRow = true)
    (hi : (P.info? ty).map (·.size) = some 3) (h : wpList P ops Q rest (a.put o.dst f.val) w) : wpList P ops Q (o :: rest) a w := by
  refine wpList_load_mid hgd ty x ho b q hx f.cells d (fun j v hv => ?_) hu hd (by simpa [Fld.cells] using hi) (by simpa [Fld.cells, Fld.val] using h)
  match j, hv with
  | 0, hv => simp [Fld.cells] at hv; subst hv; exact h0
  | 1, hv => simp [Fld.cells] at hv; subst hv; exact h1
  | 2, hv => simp [Fld.cells] at hv; subst hv; exact h2
  | n + 3, hv => simp [Fld.cells] at hv

set_option maxHeartbeats 4000000 in
theorem idx_walk (w : World) {a : Option Addr} {c : Nat} {F : List Fld} (hR : RdC w a F.length c (fldRow F)) (p : Nat) (nm : Int) (hp : w.cell? ⟨p, 0, none⟩ = some (.int .i64 nm)) (hpl : p < w.heap.size) (hno : ∀ f ∈ F, f.name ≠ nm) :
    Calls Try.prog 38 #[.slice a F.length c, .func (.func 39) #[] #[.pointer (some ⟨p, 0, none⟩)]] w fun e w' => e = .returned (.int .i64 (-1)) ∧ Below w.heap.size w w' := by
  have hm : F.length ≤ 9223372036854775807 := by have := hR.le; have := hR.cap; unfold maxLen at this; omega
  obtain ⟨b, o, h1, h2⟩ := hR.at'
  have HH := Lib.hid h1
  have HC := Lib.hid h2
  have HN := Lib.hid hno
  have HP := Lib.hid hp
  have HL := Lib.hid hpl
  clear hR h1 h2 hno hp hpl
  obtain ⟨n, hn⟩ : ∃ n, n = F.length := ⟨_, rfl⟩
  rw [← hn] at hm ⊢
  have HNN := Lib.hid hn
  clear hn
  go_enter Try.func38, Try.ntmps38
  go_wp2_with fail
  go_loopw [8, 5] (fun i j wr => ∃ k : Nat, k ≤ n ∧ i = .int .i64 k ∧ Below w.heap.size w wr) (fun i _ _ => n - (intOf i).toNat)
  case atStart => exact ⟨0, Nat.zero_le _, rfl, Below.refl _ _⟩
  case round =>
    obtain ⟨k, hk, rfl, hb⟩ := hrel
    have HB := Lib.hid hb
    clear hb
    by_cases hlt : k < n
    · obtain ⟨f, hf⟩ : ∃ f, F[k]? = some f := ⟨_, List.getElem?_eq_getElem (by rw [← HNN.out]; exact hlt)⟩
      have i1 : (k : Int) < n := by omega
      have i2 : (0 : Int) ≤ k := by omega
      have hlen : 0 < (fldRow F).length := by rw [fldRow_len, ← HNN.out]; omega
      obtain ⟨rfl, hbl⟩ := HH.out hlen
      have d0 : w.cell? ⟨b, o + k * 3, none⟩ = some (.int .i64 f.name) := HC.out _ _ (fldRow_at F k f 0 _ hf rfl)
      have d1 : w.cell? ⟨b, o + k * 3 + 1, none⟩ = some (.int .i64 f.off) := HC.out _ _ (fldRow_at F k f 1 _ hf rfl)
      have d2 : w.cell? ⟨b, o + k * 3 + 2, none⟩ = some (.int .i64 f.typ) := HC.out _ _ (fldRow_at F k f 2 _ hf rfl)
      have e0 := Lib.hid ((HB.out.cell (p := ⟨b, _, none⟩) hbl).trans d0)
      have e1 := Lib.hid ((HB.out.cell (p := ⟨b, _, none⟩) hbl).trans d1)
      have e2 := Lib.hid ((HB.out.cell (p := ⟨b, _, none⟩) hbl).trans d2)
      have ep := (HB.out.cell (p := ⟨p, 0, none⟩) HL.out).trans HP.out
      have hpw := Nat.lt_of_lt_of_le HL.out HB.out.size
      have hne := HN.out f (List.mem_of_getElem? hf)
      have EP := Lib.hid (clos_walk wr f p nm ep hpw)
      have hq : (f.name == nm) = false := by simpa using hne
      have HQ := Lib.hid hq
      clear hf hlen hbl d0 d1 d2 ep hpw hne hq
      go_wp2_with (refine load_fld rfl 48 (.tmp 14) rfl rfl e0.out e1.out e2.out Try.underlying48 rfl (by kernel_rfl) ?_)
      refine EP.out.mono ?_
      rintro e w3 ⟨rfl, hb3⟩
      rw [HQ.out]
      have HB3 := Lib.hid (bel_then HB.out hb3)
      clear hb3
      go_wp2_with fail
      go_roundw
      case rel => exact ⟨k + 1, by omega, by go_num, HB3.out⟩
      case measure => simp [intOf]; omega
    · obtain rfl : k = n := by omega
      go_wp2_with fail
      go_ret
      exact ⟨rfl, HB.out⟩

set_option maxHeartbeats 2000000 in
theorem field_none {B : Nat} {w : World} {g : Nat} {L : List Ty} {nf : Int} {R : List Row} (T : Tab B w g L nf R) {r : Nat} {t : Ty} (hr : L[r]? = some t) (hr1 : 1 ≤ r) (hf : t.form = 2) (nm : Int) {F : List Fld}
    (hF : RdC w t.fa F.length t.fc (fldRow F)) (hn : t.fn = F.length) (hno : ∀ f ∈ F, f.name ≠ nm) :
    Calls Try.prog 19 #[.pointer (some ⟨g, 0, none⟩), .int .i64 r, .int .i64 nm] w fun e w' => e = .returned (.tuple #[(Fld.mk 0 0 0).val, .bool false]) ∧ Below w.heap.size w w' := by
  have hm : madeB L (r : Int) 2 = true := by
    have hlt : r < L.length := (List.getElem?_eq_some_iff.1 hr).1
    unfold madeB inB tyAt
    rw [show ((r : Int)).toNat = r by omega, List.getD_eq_getElem?_getD, hr]
    simp [hf]; omega
  have HM := Lib.hid hm
  have HT := Lib.hid T
  have H1 := (Sep.nil w).alloc2 #[.int .i64 nm] #[.int .i64 0, .int .i64 0, .int .i64 0] 3 48
  have b1 := bel2 w (.cells #[.int .i64 nm] 3) (.cells #[.int .i64 0, .int .i64 0, .int .i64 0] 48)
  have T1 := Lib.hid (T.bel b1)
  have HB := Lib.hid b1
  clear hm T
  go_enter Try.func19, Try.ntmps19
  go_wp2_with fail
  refine (made_walk T1.out (r : Int) 2).mono ?_
  rintro e w' ⟨rfl, rfl⟩
  rw [HM.out]
  obtain ⟨h, cap, c0, _, hm, hc⟩ := T1.out.cells
  have c3 := hc r t hr 4 _ rfl
  have l1 : (0 : Int) ≤ r := by omega
  have l2 : (r : Int) < L.length := by have := (List.getElem?_eq_some_iff.1 hr).1; omega
  have HR := Lib.hid hr
  clear hr hc
  go_wp2_with fail
  have hi := idx_walk _ (hF.below HB.out (Nat.le_refl _)) w.heap.size nm ((H1.at 1 rfl).cell 0) (H1.at 1 rfl).lt hno
  have HI := Lib.hid hi
  clear hi hF hno
  refine HI.out.mono ?_
  rintro e w3 ⟨rfl, hb3⟩
  have H3 := Lib.hid (H1.bel hb3)
  have HB3 := Lib.hid (bel_then HB.out hb3)
  clear hb3 H1
  go_wp2_with (refine store_sep rfl 48 (.tmp 6) (.tmp 28) rfl H3.out 0 rfl rfl rfl (by kernel_rfl) rfl ?_ ?_; rfl; intro w4 S4 k4 s4)
  refine bodyPost_ret (res_cell_tmp rfl rfl (S4.at 0 rfl) Try.underlying48 rfl (by kernel_rfl)) rfl ?_
  refine ⟨rfl, ?_⟩
  exact HB3.out.trans (Below.ofKe k4 (fun i e => by subst e; omega) HB3.out.size)

end Go.Proofs.Ytbppoegdmmflmaa
