/- A table of types in memory: its blocks, side by side with others. -/
import Derived.Test.YtbppoegdmmflmaaSepMore
import Derived.Test.YtbppoegdmmflmaaTail
import Derived.ArgAppend
import Derived.Test.YtbppoegdmmflmaaChecked
namespace Go.Proofs.Ytbppoegdmmflmaa
set_option linter.unusedVariables false
set_option linter.unusedSimpArgs false
open Go.RowKit

structure Ty where
  form : Int
  base : Int
  len : Int
  size : Int
  fa : Option Addr
  fn : Nat
  fc : Nat
  mod : Int
  ref : Int
def Ty.fs (t : Ty) : Value := .slice t.fa t.fn t.fc
def Ty.cells (t : Ty) : List Value := [.int .i64 t.form, .int .i64 t.base, .int .i64 t.len, .int .i64 t.size, .slice t.fa t.fn t.fc, .int .i64 t.mod, .int .i64 t.ref]
def Ty.val (t : Ty) : Value := .agg #[.int .i64 t.form, .int .i64 t.base, .int .i64 t.len, .int .i64 t.size, .slice t.fa t.fn t.fc, .int .i64 t.mod, .int .i64 t.ref]
def tyRow (L : List Ty) : List Value := L.flatMap Ty.cells
theorem tyRow_len (L : List Ty) : (tyRow L).length = L.length * 7 := by
  induction L with
  | nil => rfl
  | cons x L ih => unfold tyRow at *; rw [List.flatMap_cons, List.length_append, ih]; simp [Ty.cells]; omega
theorem tyRow_at : ∀ (L : List Ty) (k : Nat) (t : Ty) (j : Nat) (u : Value), L[k]? = some t → t.cells[j]? = some u → (tyRow L)[k * 7 + j]? = some u
  | [], k, t, j, u, h, _ => by simp at h
  | x :: L, 0, t, j, u, h, hj => by
    simp at h; subst h
    have : j < 7 := by obtain ⟨h, _⟩ := List.getElem?_eq_some_iff.1 hj; simpa [Ty.cells] using h
    unfold tyRow
    rw [List.flatMap_cons, List.getElem?_append_left (by simp [Ty.cells]; omega)]
    simpa using hj
  | x :: L, k + 1, t, j, u, h, hj => by
    have := tyRow_at L k t j u (by simpa using h) hj
    unfold tyRow at *
    rw [List.flatMap_cons, List.getElem?_append_right (by simp [Ty.cells]; omega), ← this]
    congr 1
    simp [Ty.cells]; omega

/-- what a table's two blocks hold. -/
structure Row2 (g h cap : Nat) (cs : Array Value) (L : List Ty) : Prop where
  size : cs.size = cap * 7
  le : L.length ≤ cap
  cap : cap ≤ maxLen
  row : cs.toList.take (L.length * 7) = tyRow L
def tabCells (h n cap : Nat) (nf : Int) : Array Value := #[.slice (some ⟨h, 0, none⟩) n cap, .int .i64 nf]
def Tab (B : Nat) (w : World) (g : Nat) (L : List Ty) (nf : Int) (R : List Row) : Prop :=
  B ≤ g ∧ ∃ h cap cs, B ≤ h ∧ Sep w ((g, tabCells h L.length cap nf, 41) :: (h, cs, 36) :: R) ∧ Row2 g h cap cs L

theorem Row2.at {g h cap : Nat} {cs : Array Value} {L : List Ty} (H : Row2 g h cap cs L) {k : Nat} {t : Ty} (hk : L[k]? = some t) (j : Nat) {u : Value} (hj : t.cells[j]? = some u) : cs[k * 7 + j]? = some u := by
  have h1 := tyRow_at L k t j u hk hj
  rw [← H.row, List.getElem?_take] at h1
  split at h1
  · simpa using h1
  · cases h1

theorem Tab.cells {B : Nat} {w : World} {g : Nat} {L : List Ty} {nf : Int} {R : List Row} (T : Tab B w g L nf R) :
    ∃ h cap, w.cell? ⟨g, 0, none⟩ = some (.slice (some ⟨h, 0, none⟩) L.length cap) ∧ w.cell? ⟨g, 1, none⟩ = some (.int .i64 nf) ∧ L.length ≤ maxLen ∧
      ∀ k t, L[k]? = some t → ∀ j u, t.cells[j]? = some u → w.cell? ⟨h, k * 7 + j, none⟩ = some u := by
  obtain ⟨_, h, cap, cs, _, S, r⟩ := T
  refine ⟨h, cap, ((S.at 0 rfl).cell 0).trans rfl, ((S.at 0 rfl).cell 1).trans rfl, Nat.le_trans r.le r.cap, fun k t hk j u hj => ((S.at 1 rfl).cell _).trans (r.at hk j hj)⟩

/-- a table goes on beside what else is done. -/
theorem Tab.bel {B : Nat} {w w' : World} {g : Nat} {L : List Ty} {nf : Int} {R : List Row} (T : Tab B w g L nf R) (k : Below w.heap.size w w') : Tab B w' g L nf R := by
  obtain ⟨hg, h, cap, cs, hh, S, r⟩ := T
  exact ⟨hg, h, cap, cs, hh, S.bel k, r⟩
theorem Tab.size {B : Nat} {w : World} {g : Nat} {L : List Ty} {nf : Int} {R : List Row} (T : Tab B w g L nf R) : g < w.heap.size := by
  obtain ⟨hg, h, cap, cs, hh, S, r⟩ := T
  exact (S.at 0 rfl).lt

theorem Sep.rot {w : World} {a b : Row} {l : List Row} (h : Sep w (a :: b :: l)) : Sep w (b :: a :: l) :=
  ⟨fun e he => h.row e (by simp only [List.mem_cons] at *; rcases he with h | h | h; exact .inr (.inl h); exact .inl h; exact .inr (.inr h)), by
    have := h.nd
    simp only [List.pairwise_cons, List.mem_cons] at *
    exact ⟨fun x hx => by rcases hx with rfl | hx; exact fun e => this.1 _ (.inl rfl) e.symm; exact this.2.1 x hx, fun x hx => this.1 x (.inr hx), this.2.2⟩⟩

/-- the table's record. -/
def inB (L : List Ty) (n : Int) : Bool := decide (1 ≤ n) && decide (n < L.length)

def i64In (x : Int) : Prop := -9223372036854775808 ≤ x ∧ x ≤ 9223372036854775807

set_option maxHeartbeats 2000000 in
theorem in_walk {B : Nat} {w : World} {g : Nat} {L : List Ty} {nf : Int} {R : List Row} (T : Tab B w g L nf R) (n : Int) :
    Calls Try.prog 30 #[.pointer (some ⟨g, 0, none⟩), .int .i64 n] w fun e w' => e = .returned (.bool (inB L n)) ∧ w' = w := by
  obtain ⟨h, cap, c0, _, hm, _⟩ := T.cells
  have hl : L.length ≤ 9223372036854775807 := by unfold maxLen at hm; omega
  clear hm T
  unfold inB
  go_enter Try.func30, Try.ntmps30
  by_cases h1 : 1 ≤ n
  · have d1 : decide (1 ≤ n) = true := decide_eq_true h1
    go_wp2_with fail
    go_ret
    rw [d1]; simp
  · have d1 : decide (1 ≤ n) = false := decide_eq_false h1
    go_wp2_with fail
    go_ret
    exact ⟨rfl, rfl⟩

end Go.Proofs.Ytbppoegdmmflmaa
