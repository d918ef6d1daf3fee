/- Behind an error the symbol is the end, at the error's place. -/
import Derived.Test.YtdgiijidgjagbaaScanKnown
namespace Go.Proofs.Ytdgiijidgjagbaa
set_option linter.unusedVariables false
set_option linter.unusedSimpArgs false
open Go.RowKit

def Inv (s : Sc) : Prop := s.err ≠ 0 → s.sym = Sym.at s.pos
theorem inv_ok {s : Sc} (h : s.err = 0) : Inv s := fun h' => (h' h).elim
theorem markAt_inv {s : Sc} (h : Inv s) (c p : Int) : Inv (s.markAt c p) := by
  unfold Sc.markAt
  split
  · exact h
  · exact fun _ => rfl
theorem mark_inv {s : Sc} (h : Inv s) (c : Int) : Inv (s.mark c) := markAt_inv h c _
theorem intern_inv {s : Sc} (h : s.err = 0) (n : List UInt8) : Inv (s.intern n).2 ∧ (0 ≤ (s.intern n).1 → (s.intern n).2.err = 0) := by
  unfold Sc.intern
  split
  · exact ⟨inv_ok h, fun _ => h⟩
  · split
    · exact ⟨mark_inv (inv_ok h) _, fun h' => by simp at h'⟩
    · exact ⟨inv_ok h, fun _ => h⟩
theorem name_inv {s : Sc} (h : s.err = 0) : Inv s.name := by
  unfold Sc.name
  simp only
  split
  · refine mark_inv ?_ _; exact fun h' => (h' h).elim
  · have hi := intern_inv (s := { s with at' := run ldB s.src s.at' }) h (byt (cut s.src s.at' (run ldB s.src s.at')))
    split
    · exact hi.1
    · split
      · exact inv_ok (hi.2 (by omega))
      · exact inv_ok (hi.2 (by omega))
theorem number_inv {s : Sc} (h : s.err = 0) : Inv s.number := by
  unfold Sc.number
  simp only
  split
  · split
    · refine mark_inv ?_ _; exact fun h' => (h' h).elim
    · exact inv_ok h
  · split
    · refine mark_inv ?_ _; exact fun h' => (h' h).elim
    · exact inv_ok h
theorem text_inv {s : Sc} (h : s.err = 0) : Inv s.text := by
  unfold Sc.text
  simp only
  split
  · refine mark_inv ?_ _; exact fun h' => (h' h).elim
  · exact inv_ok h
theorem sign_inv {s : Sc} (h : s.err = 0) : Inv s.sign := by
  unfold Sc.sign
  simp only
  split
  · split <;> exact inv_ok h
  · split
    · exact inv_ok h
    · split
      · exact inv_ok h
      · split
        · exact inv_ok h
        · refine mark_inv ?_ _; exact fun h' => (h' h).elim
theorem get_inv {s : Sc} (h : Inv s) : Inv s.get := by
  unfold Sc.get
  split
  · exact h
  · rename_i he
    have he' : s.err = 0 := by simpa using he
    simp only
    split
    · refine markAt_inv ?_ _ _; exact fun h' => (h' he').elim
    · split
      · exact inv_ok he'
      · split
        · exact name_inv he'
        · split
          · exact number_inv he'
          · split
            · exact text_inv he'
            · exact sign_inv he'
theorem gets_inv {s : Sc} (h : Inv s) : ∀ n, Inv (gets s n)
  | 0 => h
  | n + 1 => get_inv (gets_inv h n)
theorem newS_inv (l : List Int) : Inv (newS l) := get_inv (inv_ok rfl)
theorem get_err {s : Sc} (h : s.err ≠ 0) : s.get = s := by unfold Sc.get; rw [if_pos h]
theorem markAt_err {s : Sc} (h : s.err ≠ 0) (c p : Int) : s.markAt c p = s := by unfold Sc.markAt; rw [if_pos (.inl h)]
theorem markAt_new {s : Sc} (h : s.err = 0) {c : Int} (hc : 1 ≤ c) (p : Int) : s.markAt c p = { s with err := c, pos := p, sym := Sym.at p } := by unfold Sc.markAt; rw [if_neg (by omega)]

variable {F : Nat → Prop} {w w' : World} {g : Nat} {s : Sc}
theorem Scn.ke0 (H : Scn F w g s) : True := trivial
theorem markat_is (H : Scn F w g s) (code pos : Int) :
    Calls Try.prog 16 #[.pointer (some ⟨g, 0, none⟩), .int .i64 code, .int .i64 pos] w fun e w' => e = .returned (.tuple #[]) ∧ Scn F w' g (s.markAt code pos) ∧ Ke (Off F) w w' := by
  obtain ⟨a, c, n, m, h⟩ := H
  exact (markat_walk h code pos).mono fun e w' ⟨h1, h2, h3, _⟩ => ⟨h1, ⟨a, c, n, m, h2⟩, h.off h3⟩
theorem mark_is (H : Scn F w g s) (code : Int) :
    Calls Try.prog 17 #[.pointer (some ⟨g, 0, none⟩), .int .i64 code] w fun e w' => e = .returned (.tuple #[]) ∧ Scn F w' g (s.mark code) ∧ Ke (Off F) w w' := by
  obtain ⟨a, c, n, m, h⟩ := H
  exact (mark_walk h code).mono fun e w' ⟨h1, h2, h3, _⟩ => ⟨h1, ⟨a, c, n, m, h2⟩, h.off h3⟩
theorem err_is (H : Scn F w g s) (e0 p0 : Int) (he : s.err = e0) (hp : s.pos = p0) :
    Calls Try.prog 15 #[.pointer (some ⟨g, 0, none⟩)] w fun e w' => e = .returned (.tuple #[.int .i64 e0, .int .i64 p0]) ∧ Below w.heap.size w w' := by
  subst he hp
  obtain ⟨a, c, n, m, h⟩ := H
  exact err_walk h
theorem off_bel {w w1 w2 : World} (h : Below w.heap.size w w1) (k : Ke (Off (· < w.heap.size)) w1 w2) : Below w.heap.size w w2 :=
  ((Ke.below (Off (· < w.heap.size)) h).trans k).toBelow (fun i hi e => e hi)
end Go.Proofs.Ytdgiijidgjagbaa
