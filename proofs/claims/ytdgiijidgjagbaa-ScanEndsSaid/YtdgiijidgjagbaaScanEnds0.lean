/- ScanEnds: how many symbols there are, and where, plainly; what its walk is told. -/
import Derived.Test.YtdgiijidgjagbaaScanRes
namespace Go.Proofs.Ytdgiijidgjagbaa
set_option linter.unusedVariables false
set_option linter.unusedSimpArgs false
open Go.RowKit

theorem ne_next {S : List Int} {m : Nat} (h : ∀ j, j < m → (gets (newS S) j).sym.sym ≠ 0) {i : Nat} (hi : i < m) : ∃ j : Nat, (gets (Sc.fresh S) i).at' ≤ j ∧ j < (gets (Sc.fresh S) (i + 1)).at' ∧ (gets (newS S) i).sym.pos = j := by
  have h1 := h i hi
  have h2 := new_err h1
  rw [gets_new] at h1 h2 ⊢
  obtain ⟨j, _, h3, h4, h5, _⟩ := (fine_next (fine_of_ne h i (by omega)) h2 h1).2
  exact ⟨j, h3, h4, h5⟩
theorem ne_at {S : List Int} {m : Nat} (h : ∀ j, j < m → (gets (newS S) j).sym.sym ≠ 0) : ∀ i, i ≤ m → i ≤ (gets (Sc.fresh S) i).at'
  | 0, _ => Nat.zero_le _
  | i + 1, hi => by
    have := ne_at h i (by omega)
    obtain ⟨j, h1, h2, _⟩ := ne_next h (i := i) (by omega)
    omega
theorem ends_count (S : List Int) : ∃ m, m ≤ S.length ∧ (∀ i, i < m → (gets (newS S) i).sym.sym ≠ 0) ∧ (gets (newS S) m).sym.sym = 0 := by
  have key : ∀ n, (∃ m, m ≤ n ∧ (∀ i, i < m → (gets (newS S) i).sym.sym ≠ 0) ∧ (gets (newS S) m).sym.sym = 0) ∨ (∀ i, i < n + 1 → (gets (newS S) i).sym.sym ≠ 0) := by
    intro n
    induction n with
    | zero =>
      by_cases h : (gets (newS S) 0).sym.sym = 0
      · exact .inl ⟨0, Nat.le_refl _, fun i hi => by omega, h⟩
      · exact .inr (fun i hi => by obtain rfl : i = 0 := by omega
                                   exact h)
    | succ n ih =>
      rcases ih with ⟨m, h1, h2⟩ | h
      · exact .inl ⟨m, by omega, h2⟩
      · by_cases h' : (gets (newS S) (n + 1)).sym.sym = 0
        · exact .inl ⟨n + 1, Nat.le_refl _, h, h'⟩
        · refine .inr (fun i hi => ?_)
          rcases Nat.lt_or_ge i (n + 1) with q | q
          · exact h i q
          · obtain rfl : i = n + 1 := by omega
            exact h'
  rcases key S.length with h | h
  · exact h
  · have h1 := ne_at h (S.length + 1) (Nat.le_refl _)
    have h2 := (fine_of_ne h (S.length + 1) (Nat.le_refl _)).le
    omega

/-- where the i-th symbol stands. -/
def posN (S : List Int) (i : Nat) : Nat := (gets (newS S) i).sym.pos.toNat
theorem posN_is {S : List Int} {m : Nat} (h : ∀ j, j < m → (gets (newS S) j).sym.sym ≠ 0) {i : Nat} (hi : i < m) : (gets (newS S) i).sym.pos = posN S i := by
  obtain ⟨j, _, _, h3⟩ := ne_next h hi
  unfold posN
  rw [h3]; rfl
theorem posN_lt {S : List Int} {m : Nat} (h : ∀ j, j < m → (gets (newS S) j).sym.sym ≠ 0) {i : Nat} (hi : i < m) : posN S i < S.length := by
  obtain ⟨j, _, h2, h3⟩ := ne_next h hi
  have h4 := (fine_of_ne h (i + 1) hi).le
  have := posN_is h hi
  omega
theorem posN_up {S : List Int} {m : Nat} (h : ∀ j, j < m → (gets (newS S) j).sym.sym ≠ 0) {i : Nat} (hi : i + 1 < m) : posN S i < posN S (i + 1) := by
  obtain ⟨j, _, h2, h3⟩ := ne_next h (i := i) (by omega)
  obtain ⟨j', h2', _, h3'⟩ := ne_next h hi
  have := posN_is h (i := i) (by omega)
  have := posN_is h hi
  omega
/-- the last place before the i-th symbol. -/
def lastP (S : List Int) (i : Nat) : Int := if i = 0 then -1 else posN S (i - 1)
theorem lastP_zero (S : List Int) : lastP S 0 = -1 := rfl
theorem lastP_succ (S : List Int) (i : Nat) : lastP S (i + 1) = posN S i := by unfold lastP; rw [if_neg (by omega)]; rfl
theorem lastP_lt {S : List Int} {m : Nat} (h : ∀ j, j < m → (gets (newS S) j).sym.sym ≠ 0) {i : Nat} (hi : i < m) : lastP S i < posN S i := by
  cases i with
  | zero => rw [lastP_zero]; omega
  | succ i => rw [lastP_succ]; have := posN_up h hi; omega

/-- where a piece ends. -/
def endP (S : List Int) (m i : Nat) : Nat := if i + 1 < m then posN S (i + 1) else S.length
theorem endP_ge {S : List Int} {m : Nat} (h : ∀ j, j < m → (gets (newS S) j).sym.sym ≠ 0) {i : Nat} (hi : i < m) : posN S i ≤ endP S m i ∧ endP S m i ≤ S.length := by
  unfold endP
  split
  · rename_i h1
    have := posN_up h h1
    have := posN_lt h h1
    omega
  · have := posN_lt h hi
    omega
theorem chunk_len {S : List Int} {m : Nat} (h : ∀ j, j < m → (gets (newS S) j).sym.sym ≠ 0) {i : Nat} (hi : i < m) : chunk S (posN S) m i = cut S (posN S i) (endP S m i) ∧ (chunk S (posN S) m i).length = endP S m i - posN S i :=
  ⟨rfl, cut_length (endP_ge h hi).2⟩
theorem bld_len {S : List Int} {m : Nat} (h : ∀ j, j < m → (gets (newS S) j).sym.sym ≠ 0) : ∀ i, i ≤ m → (bld S (posN S) m i).length ≤ 17 * i + (if i < m then posN S i else S.length)
  | 0, _ => Nat.zero_le _
  | i + 1, hi => by
    have ih := bld_len h i (by omega)
    have h1 := endP_ge h (i := i) (by omega)
    rw [if_pos (by omega : i < m)] at ih
    rw [bld, List.length_append, List.length_append, (chunk_len h (by omega)).2]
    have : comB.length = 17 := rfl
    have e : (if i + 1 < m then posN S (i + 1) else S.length) = endP S m i := rfl
    rw [e]
    omega
theorem bld_bd {S : List Int} (hS : ∀ x ∈ S, IntKind.u8.min ≤ x ∧ x ≤ IntKind.u8.max) (p : Nat → Nat) (m : Nat) : ∀ i, ∀ x ∈ bld S p m i, IntKind.u8.min ≤ x ∧ x ≤ IntKind.u8.max
  | 0, x, hx => by cases hx
  | i + 1, x, hx => by
    rw [bld, List.mem_append, List.mem_append] at hx
    rcases hx with (hx | hx) | hx
    · exact bld_bd hS p m i x hx
    · exact (show ∀ x ∈ comB, IntKind.u8.min ≤ x ∧ x ≤ IntKind.u8.max from by decide) x hx
    · unfold chunk cut at hx
      exact hS x (List.mem_of_mem_drop (List.mem_of_mem_take hx))

theorem Scn.widen {F G : Nat → Prop} {w w' : World} {g : Nat} {s : Sc} (H : Scn F w g s) (k : Ke G w w') (hG : ∀ i, G i → F i) : Scn (fun i => F i ∨ (w.heap.size ≤ i ∧ i < w'.heap.size)) w' g s := by
  obtain ⟨a, c, n, m, h⟩ := H
  have h' := h.ke k (fun e => h.fg (hG _ e)) (fun e => h.fm (hG _ e)) (fun b hb e => h.fn b hb (hG _ e)) (fun b hb e => h.fa b hb (hG _ e))
  refine ⟨a, c, n, m, h'.at', h'.src, h'.nms, h'.ids, fun e => ?_, fun e => ?_, fun b hb e => ?_, fun b hb e => ?_, h.ok⟩
  · rcases e with e | e
    · exact h.fg e
    · have := h.at'.lt; omega
  · rcases e with e | e
    · exact h.fm e
    · have := h.ids.lt; omega
  · rcases e with e | e
    · exact h.fn b hb e
    · have := (h.nms.lt b hb).2; omega
  · rcases e with e | e
    · exact h.fa b hb e
    · have := (h.src.lt b hb).2; omega

/-- a scanner, and a row of symbols beside it. -/
structure EnW (w0 : World) (F : Nat → Prop) (wr : World) (g : Nat) (s : Sc) (V : Value) (m : Nat) (ys : List Value) : Prop where
  scn : Scn F wr g s
  a : wr.ownsRow w0.heap.size 30 5 V m ys
  fa : ∀ b, V.ownBlock = some b → F b
  low : ∀ k, k < w0.heap.size → F k
  lt : ∀ k, F k → k < wr.heap.size
  bel : Below w0.heap.size w0 wr
variable {F : Nat → Prop} {w0 wr wz : World} {g m : Nat} {s : Sc} {V : Value} {ys : List Value}
theorem EnW.on (h : EnW w0 F wr g s V m ys) (k : Below wr.heap.size wr wz) : EnW w0 F wz g s V m ys :=
  ⟨h.scn.bel k, ownsRow_ke h.a (Ke.below Non k) (fun _ _ h => h), h.fa, h.low, fun i hi => Nat.lt_of_lt_of_le (h.lt i hi) k.size, bel_then h.bel k⟩
theorem EnW.got (h : EnW w0 F wr g s V m ys) {s' : Sc} (hs : Scn F wz g s') (k : Ke (Off F) wr wz) : EnW w0 F wz g s' V m ys :=
  ⟨hs, ownsRow_ke h.a k (fun b hb e => e (h.fa b hb)), h.fa, h.low, fun i hi => Nat.lt_of_lt_of_le (h.lt i hi) k.size, bel_off2 h.bel k h.low⟩
theorem EnW.more (h : EnW w0 F wr g s V m ys) (k : Below wr.heap.size wr wz) : EnW w0 (fun i => F i ∨ (wr.heap.size ≤ i ∧ i < wz.heap.size)) wz g s V m ys :=
  ⟨h.scn.more k, ownsRow_ke h.a (Ke.below Non k) (fun _ _ h => h), fun b hb => .inl (h.fa b hb), fun i hi => .inl (h.low i hi),
   fun i hi => by rcases hi with hi | hi; exact Nat.lt_of_lt_of_le (h.lt i hi) k.size; exact hi.2, bel_then h.bel k⟩
/-- the row was written by an append. -/
theorem EnW.grow (h : EnW w0 F wr g s V m ys) {V' : Value} {m' : Nat} {ys' : List Value} (own : wz.ownsRow w0.heap.size 30 5 V' m' ys') (hg : wr.grownBy wz V.ownBlock) (hV : V'.ownBlock = V.ownBlock ∨ V'.ownBlock = some wr.heap.size) :
    EnW w0 (fun i => F i ∨ (wr.heap.size ≤ i ∧ i < wz.heap.size)) wz g s V' m' ys' := by
  have k := Ke.ofGrown hg
  refine ⟨h.scn.widen k (fun i hi => h.fa i hi), own, fun b hb => ?_, fun i hi => .inl (h.low i hi), fun i hi => ?_, grow_bel h.bel h.a hg⟩
  · rcases hV with e | e
    · exact .inl (h.fa b (e ▸ hb))
    · rw [e] at hb
      obtain rfl := Option.some.inj hb
      exact .inr ⟨Nat.le_refl _, (own.lt _ e).2⟩
  · rcases hi with hi | hi
    · exact Nat.lt_of_lt_of_le (h.lt i hi) k.size
    · exact hi.2

end Go.Proofs.Ytdgiijidgjagbaa
