/- Plain: what the program's and the reference's readers find, step by step. No program in sight. -/
import Derived.Test.YtfnibpkojhgflaaSymOne
namespace Go.Proofs.Ytfnibpkojhgflaa
set_option linter.unusedVariables false
set_option linter.unusedSimpArgs false
open Go.RowKit
variable {l : List Int} {n : ByteArray} {k : Int} {s1 s2 s3 s9 : St} {x : Rest8}

theorem ofF_word (h1 : rSome 2 (some l) = ([83, 49], s1)) (h2 : rNm s1 = (n, s2)) (h3 : rWord s2 = (k, none)) : ofF l = none := by
  unfold ofF; rw [h1]; simp only; rw [h2]; simp only; rw [h3]
theorem ofF_rest {r : List Int} (h1 : rSome 2 (some l) = ([83, 49], s1)) (h2 : rNm s1 = (n, s2)) (h3 : rWord s2 = (k, some r)) : ofF l = ofRest n k r := by
  unfold ofF; rw [h1]; simp only; rw [h2]; simp only; rw [h3]
theorem ofF_magic {l2 : List Int} (h1 : rSome 2 (some l) = (l2, s1)) (h : l2 ≠ [83, 49]) : ofF l = none := by
  unfold ofF
  rw [h1]
  split
  · rename_i e; exact absurd (Prod.mk.inj e).1 h
  · rfl
theorem ofF_key (h1 : rSome 2 (some l) = ([83, 49], s1)) (h2 : rNm s1 = (n, s2)) (h3 : rWord s2 = (k, s3)) (h4 : ∀ r, s3 = some r → ¬ Key.of r = k) : ofF l = none := by
  cases s3 with
  | none => exact ofF_word h1 h2 h3
  | some r => rw [ofF_rest h1 h2 h3]; unfold ofRest; exact if_neg (h4 r rfl)
theorem ofF_steps (h1 : rSome 2 (some l) = ([83, 49], s1)) (h2 : rNm s1 = (n, s2)) (h3 : rWord s2 = (k, s3)) (h4 : ∀ r, s3 = some r → Key.of r = k) (h5 : rRest8 s3 = (x, s9)) :
    ofF l = if s9 = some [] ∧ mayFace ⟨n, x.1, x.2.1, x.2.2⟩ = true then some (⟨n, x.1, x.2.1, x.2.2⟩, k) else none := by
  cases s3 with
  | none =>
    have : s9 = none := by have := rRest8_reads.bad; rw [h5] at this; exact this
    subst this
    rw [ofF_word h1 h2 h3, if_neg (by rintro ⟨q, _⟩; cases q)]
  | some r =>
    rw [ofF_rest h1 h2 h3]
    unfold ofRest
    rw [if_pos (h4 r rfl), h5]
    cases s9 with
    | none => rw [if_neg (by rintro ⟨q, _⟩; cases q)]
    | some t =>
      cases t with
      | nil =>
        by_cases hm : mayFace ⟨n, x.1, x.2.1, x.2.2⟩ = true
        · rw [if_pos ⟨rfl, hm⟩]; exact if_pos hm
        · rw [if_neg (fun q => hm q.2)]; exact if_neg hm
      | cons a t => rw [if_neg (by rintro ⟨q, _⟩; cases q)]
theorem magic_of {l2 : List Int} (hb : ∀ x ∈ l2, isByte x) (h : strOf l2 = ⟨#[83, 49]⟩) : l2 = [83, 49] := by
  have := bytesI_strL hb
  rw [show strL l2 = strOf l2 from rfl, h] at this
  exact this.symm
/-- bytes' face, read. -/
def ReadsAs (l : List Int) (e : Ending) (w' : World) : Prop :=
  (ofF l = none ∧ e = .returned (.tuple #[.agg #[.string ByteArray.empty, .slice none 0 0, .slice none 0 0, .slice none 0 0], .int .u32 0, .int .i64 4])) ∨
  ∃ (f : Fc) (k : Int), ofF l = some (f.d, k) ∧ e = .returned (.tuple #[f.val, .int .u32 k, .int .i64 0]) ∧ f.Rd w'
theorem i64_byte {x : Int} (h : isByte x) : i64In x := by unfold isByte at h; unfold i64In; omega
theorem rf_ok {r : Rf} (h : refIn r) : r.ok := ⟨i64_byte h.1, i64_byte h.2⟩
theorem max255 {n : Nat} (h : n ≤ 255) : n ≤ maxLen := Nat.le_trans h (by unfold maxLen; decide)
/-- what lies in own things, as a face that is read. -/
theorem rd_ft {w : World} {t : FT} (h : (typR t).holds w) (ho : typOk8 t.d) : ftD.ok w t := by
  obtain ⟨h1, h2, h3, h4, h5⟩ := ho
  have h2 : 0 ≤ t.len ∧ t.len ≤ 65535 := h2
  have h3 : 0 ≤ t.size ∧ t.size ≤ 262144 := h3
  obtain ⟨a, c, e, hr⟩ := RdC.own (h : w.ownsRow 0 _ 4 (.slice t.fields.a t.fields.l.length t.fields.c) t.fields.l.length _)
  simp only [Value.slice.injEq] at e
  obtain ⟨rfl, _, rfl⟩ := e
  refine ⟨i64_byte h1, by unfold i64In; omega, by unfold i64In; omega, rf_ok h4, ⟨hr, fun x hx => ?_⟩⟩
  obtain ⟨q1, q2, q3⟩ := h5 x hx
  exact ⟨max255 q1, by unfold i64In; omega, rf_ok q3⟩
theorem rd_fo {w : World} {t : FO} (h : (objR t).holds w) (ho : objOk8 t.d) : foD.ok w t := by
  obtain ⟨h1, h2, h3, h4, h5⟩ := ho
  obtain ⟨a, c, e, hr⟩ := RdC.own (h : w.ownsRow 0 _ 3 (.slice t.params.a t.params.l.length t.params.c) t.params.l.length _)
  simp only [Value.slice.injEq] at e
  obtain ⟨rfl, _, rfl⟩ := e
  exact ⟨i64_byte h1, max255 h2, rf_ok h3, h4, ⟨hr, fun x hx => rf_ok (h5 x hx)⟩⟩
end Go.Proofs.Ytfnibpkojhgflaa
