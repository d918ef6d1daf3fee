/- The reader's contracts, with what they read named; what object.Of carries on. -/
import Derived.Test.YteagpjcflcahoaaObjOf0
namespace Go.Proofs.Yteagpjcflcahoaa
set_option linter.unusedVariables false
set_option linter.unusedSimpArgs false
open Go.RowKit
variable {w0 wr wz : World} {g : Nat} {s s' : St}

theorem name_as (h : Rdr w0 wr g s) {x : ByteArray} (e : rName 15 s = (x, s')) :
    Calls Try.prog 26 #[.pointer (some ⟨g, 0, none⟩)] wr fun e w' => e = .returned (.string x) ∧ x.size ≤ 15 ∧ Rdr w0 w' g s' ∧ Ke (· = g) wr w' := by
  have hb : x.size ≤ 15 := by
    have h1 : x = (rName 15 s).1 := by rw [e]
    have h2 := rSmall_bd h
    rw [h1]
    show (strL (rSome (rSmall 15 s).1.toNat (rSmall 15 s).2).1).size ≤ 15
    rw [strL_size]
    cases hs : (rSmall 15 s).2 with
    | none => exact Nat.zero_le _
    | some l =>
      unfold rSome
      simp only
      split
      · exact Nat.zero_le _
      · rw [List.length_take]; omega
  have := name_walk h
  rw [e] at this
  exact this.mono fun e w' ⟨a, b, c⟩ => ⟨a, hb, b, c⟩
theorem word_as (h : Rdr w0 wr g s) {x : Int} (e : rWord s = (x, s')) :
    Calls Try.prog 27 #[.pointer (some ⟨g, 0, none⟩)] wr fun e w' => e = .returned (.int .u32 x) ∧ (0 ≤ x ∧ x < 4294967296) ∧ Rdr w0 w' g s' ∧ Ke (· = g) wr w' := by
  have hb := rWord_bd h
  have := word_walk h
  rw [e] at this hb
  exact this.mono fun e w' ⟨a, b, c⟩ => ⟨a, hb, b, c⟩
theorem byte_as (h : Rdr w0 wr g s) {x : Int} (e : rByte s = (x, s')) :
    Calls Try.prog 30 #[.pointer (some ⟨g, 0, none⟩)] wr fun e w' => e = .returned (.int .i64 x) ∧ (0 ≤ x ∧ x < 256) ∧ Rdr w0 w' g s' ∧ Ke (· = g) wr w' := by
  have hb := rByte_bd h
  have := byte_walk h
  rw [e] at this hb
  exact this.mono fun e w' ⟨a, b, c⟩ => ⟨a, hb, b, c⟩
theorem rCount_bd {most : Int} (h0 : 0 ≤ most) {r : Int × St} (h : 0 ≤ r.1) : 0 ≤ (rCount most r).1 ∧ (rCount most r).1 ≤ most := by
  unfold rCount
  split
  · exact ⟨Int.le_refl _, h0⟩
  · exact ⟨h, by omega⟩
theorem most_as (h : Rdr w0 wr g s) (most : Int) (h0 : 0 ≤ most) (h1 : most ≤ 1000000) {x : Int} (e : rMost most s = (x, s')) :
    Calls Try.prog 28 #[.pointer (some ⟨g, 0, none⟩), .func (.func 27) #[.pointer (some ⟨g, 0, none⟩)] #[], .int .i64 most] wr fun e w' => e = .returned (.int .i64 x) ∧ (0 ≤ x ∧ x ≤ most) ∧ Rdr w0 w' g s' ∧ Ke (· = g) wr w' := by
  have hb : 0 ≤ (rMost most s).1 ∧ (rMost most s).1 ≤ most := rCount_bd h0 (rWord_bd h).1
  have := count_word h most h0 h1
  rw [e] at this hb
  exact this.mono fun e w' ⟨a, b, c⟩ => ⟨a, hb, b, c⟩
theorem small_as (h : Rdr w0 wr g s) (most : Int) (h0 : 0 ≤ most) (h1 : most ≤ 1000000) {x : Int} (e : rSmall most s = (x, s')) :
    Calls Try.prog 28 #[.pointer (some ⟨g, 0, none⟩), .func (.func 29) #[.pointer (some ⟨g, 0, none⟩)] #[], .int .i64 most] wr fun e w' => e = .returned (.int .i64 x) ∧ (0 ≤ x ∧ x ≤ most) ∧ Rdr w0 w' g s' ∧ Ke (· = g) wr w' := by
  have hb : 0 ≤ (rSmall most s).1 ∧ (rSmall most s).1 ≤ most := rCount_bd h0 (rByte_bd h).1
  have := count_small h most h0 h1
  rw [e] at this hb
  exact this.mono fun e w' ⟨a, b, c⟩ => ⟨a, hb, b, c⟩
theorem some_as (h : Rdr w0 wr g s) (n : Nat) (hn : n ≤ 1000000) {l : List Int} (e : rSome n s = (l, s')) :
    Calls Try.prog 25 #[.pointer (some ⟨g, 0, none⟩), .int .i64 n] wr fun e w' => ∃ a c, e = .returned (.slice a l.length c) ∧ RdI .u8 w0 a c l ∧ Rdr w0 w' g s' ∧ Ke (· = g) wr w' := by
  have := some_walk h n hn
  rw [e] at this
  exact this.mono fun e w' ⟨a, c, h1, h2, _, _, h3⟩ => ⟨a, c, h1, h2, h3⟩

theorem rLoop_snoc {α : Type} (f : St → α × St) : ∀ (n : Nat) (s : St), rLoop f (n + 1) s = ((rLoop f n s).1 ++ [(f (rLoop f n s).2).1], (f (rLoop f n s).2).2)
  | 0, s => rfl
  | n + 1, s => by
    show ((f s).1 :: (rLoop f (n + 1) (f s).2).1, (rLoop f (n + 1) (f s).2).2) = _
    rw [rLoop_snoc f n (f s).2]
    rfl
theorem rLoop_next {α : Type} {f : St → α × St} {n : Nat} {s t : St} {x : α} (h : f (rLoop f n s).2 = (x, t)) : rLoop f (n + 1) s = ((rLoop f n s).1 ++ [x], t) := by rw [rLoop_snoc, h]
theorem rImp_of {s t u : St} {a : ByteArray} {b : Int} (h1 : rName 15 s = (a, t)) (h2 : rWord t = (b, u)) : rImp s = (⟨a, b⟩, u) := by unfold rImp; rw [h1]; show ((⟨a, (rWord t).1⟩ : Imp), (rWord t).2) = _; rw [h2]
theorem rFix_of {s t u v : St} {a b c : Int} (h1 : rMost 16384 s = (a, t)) (h2 : rByte t = (b, u)) (h3 : rByte u = (c, v)) : rFix s = (⟨a, b, c⟩, v) := by
  unfold rFix; rw [h1]; show ((⟨a, (rByte t).1, (rByte (rByte t).2).1⟩ : Fix), (rByte (rByte t).2).2) = _; rw [h2]; show ((⟨a, b, (rByte u).1⟩ : Fix), (rByte u).2) = _; rw [h3]
theorem rLoop_len {α : Type} (f : St → α × St) : ∀ (n : Nat) (s : St), (rLoop f n s).1.length = n
  | 0, s => rfl
  | n + 1, s => by show ((f s).1 :: _).length = _; rw [List.length_cons, rLoop_len f n]

/-- the reader, the object that is made, and where the result lies; since wA the first two alone were written. -/
structure OA (wA w0 : World) (gr : Nat) (zs : Array Value) (wr : World) (g go : Nat) (s : St) (cs : Array Value) : Prop where
  rdr : Rdr w0 wr g s
  obj : At wr go cs 29
  res : At wr gr zs 29
  lo : w0.heap.size ≤ go
  lr : gr < w0.heap.size
  ne : g ≠ go
  ke : Ke (fun i => i = g ∨ i = go ∨ i = gr) wA wr
variable {wA : World} {gr go : Nat} {zs cs cs' : Array Value}
theorem OA.read (h : OA wA w0 gr zs wr g go s cs) (r : Rdr w0 wz g s') (k : Ke (· = g) wr wz) : OA wA w0 gr zs wz g go s' cs :=
  ⟨r, h.obj.ke k (fun e => h.ne e.symm), h.res.ke k (fun e => by have := h.rdr.low; have := h.lr; omega), h.lo, h.lr, h.ne, h.ke.trans (k.mono fun i _ e => .inl e)⟩
theorem OA.put (h : OA wA w0 gr zs wr g go s cs) (ha : At wz go cs' 29) (k : Ke (· = go) wr wz) : OA wA w0 gr zs wz g go s cs' :=
  ⟨h.rdr.ke k h.ne (fun i e => by subst e; exact h.lo), ha, h.res.ke k (fun e => by have := h.lo; have := h.lr; omega), h.lo, h.lr, h.ne, h.ke.trans (k.mono fun i _ e => .inr (.inl e))⟩
theorem OA.bel (h : OA wA w0 gr zs wr g go s cs) (k : Below wr.heap.size wr wz) : OA wA w0 gr zs wz g go s cs :=
  ⟨h.rdr.on k, h.obj.bel k, h.res.bel k, h.lo, h.lr, h.ne, h.ke.trans (Ke.below _ k)⟩
theorem OA.anew (h : OA wA w0 gr zs wr g go s cs) : OA wr w0 gr zs wr g go s cs := ⟨h.rdr, h.obj, h.res, h.lo, h.lr, h.ne, Ke.refl _ _⟩
theorem OA.app (h : OA wA w0 gr zs wr g go s cs) (hg : g < wA.heap.size) (ho : go < wA.heap.size) (k : Ke (fun i => wA.heap.size ≤ i) wr wz) : OA wA w0 gr zs wz g go s cs :=
  ⟨h.rdr.ke k (by omega) (fun i hi => by have := h.lo; omega), h.obj.ke k (by omega), h.res.ke k (by have := h.lo; have := h.lr; omega), h.lo, h.lr, h.ne, h.ke.trans' k (fun i hi hh => absurd hi (Nat.not_lt.2 hh))⟩

/-- of the wB that a loop began in: both boxes are older. -/
theorem OA.lts (h : OA wA w0 gr zs wA g go s cs) : g < wA.heap.size ∧ go < wA.heap.size ∧ gr < wA.heap.size := by
  obtain ⟨B, bad, h1, _⟩ := h.rdr.box
  exact ⟨h1.lt, h.obj.lt, h.res.lt⟩

/-- bytes are not a block of other cells. -/
theorem rdi_ke {w w' : World} {a : Option Addr} {c : Nat} {l : List Int} {gr : Nat} {zs : Array Value} {t : TypeId} (h : RdI .u8 w a c l) (ha : At w gr zs t) (hz : ∀ (o : Nat) (x : Int), zs[o]? ≠ some (Value.int .u8 x)) (k : Ke (· = gr) w w') : RdI .u8 w' a c l := by
  obtain ⟨⟨⟨b, o, h1, h2⟩, h3, h4, h5⟩, hb⟩ := h
  refine ⟨⟨⟨b, o, fun h0 => ⟨(h1 h0).1, Nat.lt_of_lt_of_le (h1 h0).2 k.size⟩, fun j u hj => ?_⟩, h3, h4, h5⟩, hb⟩
  have h6 := h2 j u hj
  have hne : b ≠ gr := by
    intro e
    rw [e, ha.cell] at h6
    obtain ⟨x, _, rfl⟩ := List.mem_map.1 (List.mem_of_getElem? hj)
    exact hz _ _ h6
  have hlt : b < w.heap.size := (h1 (Nat.lt_of_le_of_lt (Nat.zero_le j) (by
    rcases Nat.lt_or_ge j (l.map (Value.int .u8)).length with h | h
    · exact h
    · rw [List.getElem?_eq_none h] at hj; cases hj))).2
  rw [← h6]
  exact World.cell?_of_block (w := w) (k.block b hlt hne)

theorem et_imp : ET Try.prog 23 45 (.agg #[.string ⟨#[]⟩, .int .u32 0]) 2 24 := ET.of Try.underlying23 (by kernel_rfl) (by decide) (by decide)
theorem et_u32 : ET Try.prog 25 22 (.int .u32 0) 1 4 := ET.of Try.underlying25 (by kernel_rfl) (by decide) (by decide)
theorem et_int : ET Try.prog 26 3 (.int .i64 0) 1 8 := ET.of Try.underlying26 (by kernel_rfl) (by decide) (by decide)
theorem et_fix : ET Try.prog 27 51 (.agg #[.int .i64 0, .int .i64 0, .int .i64 0]) 3 24 := ET.of Try.underlying27 (by kernel_rfl) (by decide) (by decide)
end Go.Proofs.Yteagpjcflcahoaa
