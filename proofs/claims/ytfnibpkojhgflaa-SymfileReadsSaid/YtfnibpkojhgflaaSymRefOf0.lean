/- Plain: loops that stop where the reader is bad. No program in sight. -/
import Derived.Test.YtfnibpkojhgflaaSymRef
import Derived.Test.YtfnibpkojhgflaaSymOf0
namespace Go.Proofs.Ytfnibpkojhgflaa
set_option linter.unusedVariables false
set_option linter.unusedSimpArgs false
open Go.RowKit
structure LoopI {α : Type} (f : St → α × St) (i : Nat) (s0 : St) (ys : List α) (si : St) : Prop where
  st : (rLoop f i s0).2 = si
  val : si ≠ none → (rLoop f i s0).1 = ys
structure StepI {α : Type} (f : St → α × St) (s : St) (y : α) (s' : St) : Prop where
  st : (f s).2 = s'
  val : s' ≠ none → (f s).1 = y
theorem StepI.of {α : Type} {f : St → α × St} {s s' : St} {y : α} (h : f s = (y, s')) : StepI f s y s' := ⟨by rw [h], fun _ => by rw [h]⟩
variable {α : Type} {f : St → α × St} {i n : Nat} {s0 si s' : St} {ys : List α} {y : α}
theorem LoopI.zero (f : St → α × St) (s0 : St) : LoopI f 0 s0 [] s0 := ⟨rfl, fun _ => rfl⟩
theorem LoopI.next (h : LoopI f i s0 ys si) (hb : (f none).2 = none) (e : StepI f si y s') : LoopI f (i + 1) s0 (ys ++ [y]) s' := by
  obtain ⟨l, s1, hl⟩ : ∃ l s1, rLoop f i s0 = (l, s1) := ⟨_, _, rfl⟩
  obtain ⟨x, s2, hx⟩ : ∃ x s2, f si = (x, s2) := ⟨_, _, rfl⟩
  obtain ⟨h1, h2⟩ := h
  obtain ⟨e1, e2⟩ := e
  rw [hl] at h1 h2
  rw [hx] at e1 e2
  dsimp only at h1 h2 e1 e2
  subst h1 e1
  have := rLoop_snoc f i s0 hl hx
  refine ⟨by rw [this], fun hs => ?_⟩
  rw [this]
  have hne : s1 ≠ none := by
    rintro rfl
    rw [hx] at hb
    exact hs hb
  dsimp only
  rw [h2 hne, e2 hs]
theorem loop_bad (hb : (f none).2 = none) : ∀ n, (rLoop f n none).2 = none
  | 0 => rfl
  | n + 1 => by
    show (rLoop f n (f none).2).2 = none
    rw [hb]; exact loop_bad hb n
theorem loop_more (hb : (f none).2 = none) : ∀ (i n : Nat) (s0 : St), i ≤ n → (rLoop f i s0).2 = none → (rLoop f n s0).2 = none
  | 0, n, s0, _, h => by have h : s0 = none := h; subst h; exact loop_bad hb n
  | i + 1, 0, s0, hi, _ => by omega
  | i + 1, n + 1, s0, hi, h => loop_more hb i n (f s0).2 (by omega) h
theorem LoopI.exit (h : LoopI f i s0 ys si) (hb : (f none).2 = none) (hi : i ≤ n) (hx : i = n ∨ si = none) : LoopI f n s0 ys si := by
  rcases hx with rfl | rfl
  · exact h
  · exact ⟨loop_more hb i n s0 hi h.st, fun q => absurd rfl q⟩
theorem rest_steps {s3 s4 s5 s6 s7 s8 s9 : St} {n1 n2 n3 : Nat} {a : List Imp} {b : List TD} {c : List ODD} (h1 : rByte s3 = ((n1 : Int), s4)) (l1 : LoopI rImp8 n1 s4 a s5) (h2 : rByte s5 = ((n2 : Int), s6)) (l2 : LoopI rTyp n2 s6 b s7) (h3 : rNum 900 s7 = ((n3 : Int), s8)) (l3 : LoopI rObj8 n3 s8 c s9) :
    (rRest8 s3).2 = s9 ∧ (s9 ≠ none → (rRest8 s3).1 = (a, b, c)) := by
  have e1 : rMany rImp8 s3 = ((rLoop rImp8 n1 s4).1, s5) := by unfold rMany; rw [h1]; dsimp only; rw [Int.toNat_natCast, ← l1.st]
  have e2 : rMany rTyp s5 = ((rLoop rTyp n2 s6).1, s7) := by unfold rMany; rw [h2]; dsimp only; rw [Int.toNat_natCast, ← l2.st]
  have e3 : rObjs8 s7 = ((rLoop rObj8 n3 s8).1, s9) := by unfold rObjs8; rw [h3]; dsimp only; rw [Int.toNat_natCast, ← l3.st]
  have e : rRest8 s3 = (((rLoop rImp8 n1 s4).1, (rLoop rTyp n2 s6).1, (rLoop rObj8 n3 s8).1), s9) := by
    unfold rRest8; rw [e1]; dsimp only; rw [e2]; dsimp only; rw [e3]
  refine ⟨by rw [e], fun hs => ?_⟩
  have q7 : s7 ≠ none := by
    rintro rfl
    have := (rNum_reads 900 (by decide)).bad
    rw [h3] at this
    have this : s8 = none := this
    subst this
    exact hs (l3.st.symm.trans (loop_bad rObj8_reads.bad n3))
  have q5 : s5 ≠ none := by
    rintro rfl
    have := rByte_reads.bad
    rw [h2] at this
    have this : s6 = none := this
    subst this
    exact q7 (l2.st.symm.trans (loop_bad rTyp_reads.bad n2))
  rw [e, l1.val q5, l2.val q7, l3.val hs]
/-- bounds of what was read. -/
theorem rest_ok {s3 : St} {x : Rest8} (hsb : SB s3) (h : (rRest8 s3).1 = x) : (∀ y ∈ x.1, impIn y) ∧ (∀ y ∈ x.2.1, typOk8 y) ∧ (∀ y ∈ x.2.2, objOk8 y) := by
  subst h
  obtain ⟨a1, a2⟩ := sb_many sb_imp hsb
  obtain ⟨a3, a4⟩ := sb_many sb_typ a2
  obtain ⟨_, a5⟩ := sb_num 900 (by decide) a4
  exact ⟨a1, a3, (sb_loop sb_obj _ a5).1⟩
/-- the reference's answer. -/
def RefAs (l : List Int) (e : Ending) (w' : World) : Prop :=
  (ofF l = none ∧ e = .returned (.tuple #[.agg #[.string ByteArray.empty, .slice none 0 0, .slice none 0 0, .slice none 0 0], .int .u32 0, .bool false])) ∨
  ∃ (f : Fc) (k : Int), ofF l = some (f.d, k) ∧ e = .returned (.tuple #[f.val, .int .u32 k, .bool true]) ∧ f.Rd w'
theorem many_step {s1 s2 s3 : St} {m : Nat} {fs : List Fld} {z : Int} (h1 : rNum 262144 s1 = (z, s2)) (h2 : rByte s2 = ((m : Int), s3)) (l : LoopI rFld m s3 fs s') (s : St) {fm : Int} (h0 : rByte s = (fm, s1)) (h : fm = 2) : StepI rTyp s ⟨fm, 0, z, ⟨0, 0⟩, fs⟩ s' := by
  have e : rTyp s = (⟨fm, 0, z, ⟨0, 0⟩, (rLoop rFld m s3).1⟩, (rLoop rFld m s3).2) := by
    unfold rTyp; rw [h0]; dsimp only
    rw [show rBody8 fm s1 = rRecord s1 from if_pos h]
    unfold rRecord; rw [h1]; dsimp only; unfold rMany; rw [h2]; dsimp only; rw [Int.toNat_natCast]
  exact ⟨by rw [e]; exact l.st, fun q => by rw [e, l.val q]⟩
theorem proc_step {s s1 s2 s3 s4 s5 : St} {c v m : Nat} {nm : ByteArray} {r : Rf} {ps : List Prm} (h0 : rByte s = ((c : Int), s1)) (h1 : rNm s1 = (nm, s2)) (h2 : rRef s2 = (r, s3)) (h3 : rByte s3 = ((v : Int), s4)) (h4 : rByte s4 = ((m : Int), s5)) (l : LoopI rPrm m s5 ps s') (hc : (c : Int) = 4) : StepI rObj8 s ⟨c, nm, r, v, ps⟩ s' := by
  have eh : rHead8 s = ((((c : Int), nm, r) : Int × ByteArray × Rf), s3) := by unfold rHead8; rw [h0]; dsimp only; rw [h1]; dsimp only; rw [h2]
  have e : rObj8 s = (⟨c, nm, r, v, (rLoop rPrm m s5).1⟩, (rLoop rPrm m s5).2) := by
    unfold rObj8; rw [eh]; dsimp only
    rw [show rTail8 (c : Int) s3 = rProc s3 by unfold rTail8; rw [if_neg (by omega), if_pos hc]]
    unfold rProc; rw [h3]; dsimp only; unfold rMany; rw [h4]; dsimp only; rw [Int.toNat_natCast]
  exact ⟨by rw [e]; exact l.st, fun q => by rw [e, l.val q]⟩
end Go.Proofs.Ytfnibpkojhgflaa
