/- Contract: object.Of of any bytes. -/
import Derived.Test.YteagpjcflcahoaaObjOf
namespace Go.Proofs.Yteagpjcflcahoaa
set_option linter.unusedVariables false
set_option linter.unusedSimpArgs false
open Go.RowKit

def zeroObj : Value := .agg #[Value.string ⟨#[]⟩, Value.int .u32 0, .slice none 0 0, .int .i64 0, .slice none 0 0, .slice none 0 0, .slice none 0 0, .slice none 0 0]

set_option maxRecDepth 100000 in
set_option maxHeartbeats 4000000 in
theorem of_bad (a : Option Addr) (c : Nat) (l : List Int) (w : World) (h : RdI .u8 w a c l) (hl : l.length ≤ 1000000) (ha : a = none ∨ ∃ b o, a = some ⟨b, o, none⟩) {q : List Int × St}
    (e1 : rSome 2 (some l) = q) (e2 : strOf q.1 ≠ ⟨#[79, 49]⟩) :
    Calls Try.prog 14 #[.slice a l.length c] w fun e w' => Below w.heap.size w w' ∧ e = .returned (.tuple #[zeroObj, .int .i64 4]) := by
  obtain ⟨l0, s1⟩ := q
  dsimp only at e2
  have HE0 := Lib.hid e1
  obtain ⟨t0, ht0⟩ : ∃ t, t = strOf l0 := ⟨_, rfl⟩
  rw [← ht0] at e2
  have HT0 := Lib.hid ht0
  have q1 : (t0.toList == [79, 49]) = false := (show (⟨#[79, 49]⟩ : ByteArray).toList = [79, 49] by decide +kernel) ▸ str_other e2
  clear e1 e2 ht0
  have HA := Lib.hid h
  have HL := Lib.hid hl
  have HAN := Lib.hid ha
  clear h hl ha
  have HZ : Hid (At (w.alloc (.cells #[Value.string ⟨#[]⟩, Value.int .u32 0, .slice none 0 0, .int .i64 0, .slice none 0 0, .slice none 0 0, .slice none 0 0, .slice none 0 0] 29)) w.heap.size #[Value.string ⟨#[]⟩, Value.int .u32 0, .slice none 0 0, .int .i64 0, .slice none 0 0, .slice none 0 0, .slice none 0 0, .slice none 0 0] 29) := Lib.hid (At.new w _ _)
  have f0 : True := trivial
  have f1 : True := trivial
  have z1 : True := trivial
  go_enter Try.func14, Try.ntmps14
  go_wp2_with (first | (have _f := f0; refine (clone_walk a c l _ (HA.out.below (bel1 w _) (Nat.le_refl _)) (by have := HL.out; omega) HAN.out).mono ?_; rintro e w1 ⟨a1, c1, rfl, hr, hn, hb⟩; have HC := Lib.hid hr; have HCN := Lib.hid hn; have HZ1 := Lib.hid (HZ.out.bel hb); have HB1 := Lib.hid (bel_then (bel1 w _) hb); clear hr hn hb _f f0) | (have _f := f1; refine (some_as (Rdr.mk (g := w1.heap.size) (Nat.le_refl _) (bel1 w1 _) ⟨_, _, At.new w1 #[.slice a1 l.length c1, .bool false] 58, rfl, a1, c1, rfl, HC.out, HCN.out⟩ : Rdr w1 _ w1.heap.size (some l)) 2 (by decide) HE0.out).mono ?_; rintro e w2 ⟨a2, c2, rfl, hr, r, k⟩; have HBR := Lib.hid r.bel; have hq := run_str_of (P := Try.prog) (dst := 9) (hr.below r.bel (Nat.le_refl _)) Try.underlying24 Try.underlying5 Try.underlying9; rw [← HT0.out] at hq; have HZ2 := Lib.hid ((HZ1.out.bel (bel1 w1 _)).ke k (fun e => absurd HZ1.out.lt (by omega))); clear hr r k _f f1) | (have _f := z1; refine store_sep (cells := #[Value.string ⟨#[]⟩, Value.int .u32 0, .slice none 0 0, .int .i64 0, .slice none 0 0, .slice none 0 0, .slice none 0 0, .slice none 0 0]) rfl 29 (.tmp 2) (.tmp 14) rfl (Sep.one HZ2.out) 0 rfl rfl rfl (by kernel_rfl) rfl rfl ?_; intro wf S k _; have HSF : Hid (At wf w.heap.size #[Value.string ⟨#[]⟩, Value.int .u32 0, .slice none 0 0, .int .i64 0, .slice none 0 0, .slice none 0 0, .slice none 0 0, .slice none 0 0] 29) := Lib.hid (S.at 0 rfl); have HKF := Lib.hid k; clear S k _f z1))
  refine bodyPost_ret (res_cell_tmp rfl rfl HSF.out Try.underlying29 rfl (by kernel_rfl)) rfl ⟨?_, rfl⟩
  have hb := HB1.out.trans (HBR.out.mono HB1.out.size)
  exact hb.trans (bel_ke HKF.out (fun i e => Nat.le_of_eq e.symm) hb.size)

/-- what bytes are read as. -/
def ofB (l : List Int) : Option OD :=
  if strOf (rSome 2 (some l)).1 = ⟨#[79, 49]⟩ then
    (if (rBody (rSome 2 (some l)).2).2 = some [] ∧ mayObj (rBody (rSome 2 (some l)).2).1 = true then some (rBody (rSome 2 (some l)).2).1 else none)
  else none
theorem of_walk (a : Option Addr) (c : Nat) (l : List Int) (w : World) (h : RdI .u8 w a c l) (hl : l.length ≤ 1000000) (ha : a = none ∨ ∃ b o, a = some ⟨b, o, none⟩) :
    Calls Try.prog 14 #[.slice a l.length c] w fun e w' => Below w.heap.size w w' ∧ ((∃ x : Obj, ofB l = some x.d ∧ x.Rd w' ∧ e = .returned (.tuple #[x.val, .int .i64 0])) ∨ (ofB l = none ∧ e = .returned (.tuple #[zeroObj, .int .i64 4]))) := by
  obtain ⟨⟨l0, s1⟩, hq⟩ : ∃ q, rSome 2 (some l) = q := ⟨_, rfl⟩
  obtain ⟨O, s14, he⟩ : ∃ O s, rBody s1 = (O, s) := ⟨_, _, rfl⟩
  have hE : ofB l = if strOf l0 = ⟨#[79, 49]⟩ then (if s14 = some [] ∧ mayObj O = true then some O else none) else none := by
    unfold ofB; rw [hq]; show (if strOf l0 = _ then (if (rBody s1).2 = _ ∧ mayObj (rBody s1).1 = _ then some (rBody s1).1 else none) else none) = _; rw [he]
  rw [hE]
  by_cases h1 : strOf l0 = ⟨#[79, 49]⟩
  · rw [if_pos h1]
    refine (of_good a c l w h hl ha hq h1 he).mono fun e w' ⟨hb, hh⟩ => ⟨hb, ?_⟩
    rcases hh with ⟨q1, q2, x, q3, q4, q5⟩ | ⟨q1, q2⟩
    · exact .inl ⟨x, by rw [if_pos ⟨q1, q2⟩, q3], q4, q5⟩
    · exact .inr ⟨by rw [if_neg q1], q2⟩
  · rw [if_neg h1]
    refine (of_bad a c l w h hl ha hq h1).mono fun e w' ⟨hb, hh⟩ => ⟨hb, .inr ⟨rfl, hh⟩⟩

/-! ### plainly -/
theorem ofB_bytes {o : OD} (h : o.In) (hm : mayObj o = true) : ofB o.bytes = some o := by
  have e1 : rSome 2 (some o.bytes) = ([79, 49], some o.rest) := by rw [o.bytes_rest]; exact rSome_full [79, 49] o.rest 2 rfl
  have e2 : rBody (some o.rest) = (o, some []) := by have := rBody_reads.full o [] h; rwa [List.append_nil] at this
  unfold ofB
  rw [e1]
  show (if strOf [79, 49] = _ then (if (rBody (some o.rest)).2 = _ ∧ mayObj (rBody (some o.rest)).1 = _ then some (rBody (some o.rest)).1 else none) else none) = _
  rw [if_pos (by decide +kernel), e2, if_pos ⟨rfl, hm⟩]
theorem ofB_sound {l : List Int} (hb : ∀ x ∈ l, isByte x) {o : OD} (h : ofB l = some o) : l = o.bytes ∧ o.In ∧ mayObj o = true := by
  unfold ofB at h
  split at h
  · rename_i h1
    split at h
    · rename_i h2
      obtain ⟨h2, h3⟩ := h2
      obtain rfl := Option.some.inj h
      obtain ⟨⟨l0, s1⟩, hq⟩ : ∃ q, rSome 2 (some l) = q := ⟨_, rfl⟩
      rw [hq] at h1 h2 h3 ⊢
      dsimp only at h1 h2 h3 ⊢
      cases s1 with
      | none => have := rBody_reads.bad; rw [this] at h2; cases h2
      | some b =>
        obtain ⟨h4, h5⟩ := rSome_sound hq
        have h6 : rBody (some b) = ((rBody (some b)).1, some []) := by rw [← h2]
        obtain ⟨h7, h8⟩ := rBody_reads.sound b _ [] (fun y hy => hb y (by rw [h4]; simp [hy])) h6
        rw [List.append_nil] at h7
        have h9 : l0 = [79, 49] := by
          have hl0 : ∀ x ∈ l0, isByte x := fun x hx => hb x (by rw [h4]; simp [hx])
          have := bytesI_strL hl0
          rw [show strL l0 = ⟨#[79, 49]⟩ from h1] at this
          rw [← this]; decide +kernel
        refine ⟨?_, h8, h3⟩
        rw [h4, h9, OD.bytes_rest, ← h7]
    · cases h
  · cases h
/-- an object's bytes are bytes. -/
theorem OD.bytes_byte' (o : OD) (h : o.In) : ∀ y ∈ o.bytes, isByte y := by
  have hm : ∀ n : Int, isByte (n % 256) := fun n => ⟨Int.emod_nonneg _ (by decide), Int.emod_lt_of_pos _ (by decide)⟩
  have hn : ∀ s : ByteArray, ∀ y ∈ nameB s, isByte y := fun s y hy => by
    rcases List.mem_cons.1 hy with rfl | hy
    · exact hm _
    · exact bytesI_byte s y hy
  intro y hy
  rw [o.bytes_rest] at hy
  unfold OD.rest at hy
  simp only [List.mem_append, List.mem_flatMap, List.mem_cons, List.not_mem_nil, or_false] at hy
  rcases hy with (rfl | rfl) | hy | hy | (rfl | ⟨x, _, hy⟩) | hy | (hy | hy) | (hy | ⟨x, _, hy⟩) | (rfl | ⟨x, _, hy⟩) | (hy | ⟨x, _, hy⟩)
  · exact ⟨by decide, by decide⟩
  · exact ⟨by decide, by decide⟩
  · exact hn _ y hy
  · exact wordB_byte _ y hy
  · exact hm _
  · unfold impB at hy
    rcases List.mem_append.1 hy with hy | hy
    · exact hn _ y hy
    · exact wordB_byte _ y hy
  · exact wordB_byte _ y hy
  · exact wordB_byte _ y hy
  · exact h.text.2 y hy
  · exact wordB_byte _ y hy
  · exact wordB_byte _ y hy
  · exact hm _
  · exact wordB_byte _ y hy
  · exact wordB_byte _ y hy
  · unfold fixB at hy
    rcases List.mem_append.1 hy with hy | hy
    · exact wordB_byte _ y hy
    · simp only [List.mem_cons, List.not_mem_nil, or_false] at hy
      rcases hy with rfl | rfl
      · exact hm _
      · exact hm _
/-- a beginning is none's. -/
theorem ofB_cut {o : OD} (h : o.In) {n : Nat} (hn : n < o.bytes.length) (hby : ∀ x ∈ o.bytes, isByte x) : ofB (o.bytes.take n) = none := by
  cases e : ofB (o.bytes.take n) with
  | none => rfl
  | some p =>
    obtain ⟨h1, h2, h3⟩ := ofB_sound (fun x hx => hby x (List.mem_of_mem_take hx)) e
    exfalso
    have h4 : p.bytes ++ o.bytes.drop n = o.bytes := by rw [← h1, List.take_append_drop]
    rw [p.bytes_rest, o.bytes_rest, List.append_assoc] at h4
    have h5 := List.append_cancel_left h4
    have h6 := rBody_reads.full p (([79, 49] ++ o.rest).drop n) h2
    have h7 := rBody_reads.full o [] h
    rw [List.append_nil] at h7
    rw [h5, h7] at h6
    simp only [Prod.mk.injEq, Option.some.injEq] at h6
    have h8 := congrArg List.length h6.2
    rw [o.bytes_rest] at hn
    rw [List.length_drop] at h8
    simp only [List.length_nil] at h8
    omega
/-- nor with more behind. -/
theorem ofB_more {o : OD} (h : o.In) {m : List Int} (hm : m ≠ []) (hby : ∀ x ∈ o.bytes ++ m, isByte x) : ofB (o.bytes ++ m) = none := by
  cases e : ofB (o.bytes ++ m) with
  | none => rfl
  | some p =>
    obtain ⟨h1, h2, h3⟩ := ofB_sound hby e
    exfalso
    rw [p.bytes_rest, o.bytes_rest, List.append_assoc] at h1
    have h5 := List.append_cancel_left h1
    have h6 := rBody_reads.full o m h
    have h7 := rBody_reads.full p [] h2
    rw [List.append_nil] at h7
    rw [h5, h7] at h6
    simp only [Prod.mk.injEq, Option.some.injEq] at h6
    exact hm h6.2.symm
end Go.Proofs.Yteagpjcflcahoaa
