/- Plain: step by step, what is read in a window of one source is read in a window of another one; sources joined; sources with comments ahead of each symbol. No program in sight. -/
import Derived.Test.YtdgiijidgjagbaaScanRead
namespace Go.Proofs.Ytdgiijidgjagbaa
set_option linter.unusedVariables false
set_option linter.unusedSimpArgs false

variable {S T : List Int} {p q n : Nat}

theorem read_bd {S : List Int} {j : Nat} {U : List (List UInt8)} (hK : Kw U) (hj : j < S.length) (h0 : (stand S j U).read.err = 0) : j < (stand S j U).read.at' ∧ (stand S j U).read.at' ≤ S.length := by
  cases hl : letterB (S.getD j 0) with
  | true =>
    have hy := run_yes (p := ldB) rfl (by unfold ldB; rw [hl]; rfl : ldB (S.getD j 0) = true)
    have hle := run_le (p := ldB) (s := S) (i := j + 1) (by omega)
    rw [← hy.1] at hle
    rw [read_name hj hl] at h0 ⊢
    rcases name_read rfl hK with ⟨_, _, h3⟩ | ⟨_, h3⟩ | ⟨_, _, _, h3⟩ <;> rw [h3] <;> simp only <;> omega
  | false =>
    cases hd : digitB (S.getD j 0) with
    | true =>
      have hy := run_yes (p := hexB) rfl (by unfold hexB; rw [hd]; rfl : hexB (S.getD j 0) = true)
      have hle := run_le (p := hexB) (s := S) (i := j + 1) (by omega)
      rw [← hy.1] at hle
      have hbe : S.getD (run hexB S j) 0 = 72 ∨ S.getD (run hexB S j) 0 = 88 → run hexB S j < S.length := fun h => by
        rcases Nat.lt_or_ge (run hexB S j) S.length with h' | h'
        · exact h'
        · rw [getD_end h'] at h; omega
      rw [read_number hj hl hd] at h0 ⊢
      unfold Sc.number stand at h0 ⊢
      simp only at h0 ⊢
      split
      · rename_i hh
        have := hbe hh
        rw [if_pos hh] at h0
        split
        · rename_i hb
          rw [if_pos hb] at h0
          unfold Sc.mark at h0
          rw [markAt_new rfl (by decide)] at h0
          cases h0
        · simp only; omega
      · rename_i hh
        rw [if_neg hh] at h0
        split
        · rename_i hb
          rw [if_pos hb] at h0
          unfold Sc.mark at h0
          rw [markAt_new rfl (by decide)] at h0
          cases h0
        · simp only; omega
    | false =>
      by_cases hq : S.getD j 0 = 34
      · have hle := run_le (p := strB) (s := S) (i := j + 1) (by omega)
        rw [read_text hj hq] at h0 ⊢
        unfold Sc.text stand at h0 ⊢
        simp only at h0 ⊢
        split
        · rename_i hb
          rw [if_pos hb] at h0
          unfold Sc.mark at h0
          rw [markAt_new rfl (by decide)] at h0
          cases h0
        · rename_i hb
          have h34 : S.getD (run strB S (j + 1)) 0 = 34 := by
            by_cases h : S.getD (run strB S (j + 1)) 0 = 34
            · exact h
            · exact (hb (.inl h)).elim
          have : run strB S (j + 1) < S.length := by
            rcases Nat.lt_or_ge (run strB S (j + 1)) S.length with h' | h'
            · exact h'
            · rw [getD_end h'] at h34; omega
          simp only; omega
      · rw [read_sign hj hl hd hq, sign_read] at h0 ⊢
        cases hs : signN (S.getD j 0) (decide (S.getD (j + 1) 0 = 61)) with
        | none => rw [hs] at h0; cases h0
        | some md =>
          obtain ⟨m, d⟩ := md
          have hb := signN_bd hs
          simp only
          rcases hb.2.2 with rfl | ⟨rfl, ht⟩
          · omega
          · have h61 : S.getD (j + 1) 0 = 61 := by simpa using ht
            have : j + 1 < S.length := by
              rcases Nat.lt_or_ge (j + 1) S.length with h' | h'
              · exact h'
              · rw [getD_end h'] at h61; omega
            omega

/-- a scanner without an error. -/
structure Fine (S : List Int) (u : Sc) : Prop where
  src : u.src = S
  err : u.err = 0
  pos : u.pos = 0
  kw : Kw u.names
  le : u.at' ≤ S.length

/-- what the next symbol is. -/
theorem fine_get {u : Sc} (h : Fine S u) : (∃ j, blank S u.at' = (false, j) ∧ u.get.err = 5) ∨ (blank S u.at' = (true, S.length) ∧ u.get = stand S S.length u.names) ∨ (∃ j, blank S u.at' = (true, j) ∧ u.at' ≤ j ∧ j < S.length ∧ u.get = (stand S j u.names).read) := by
  have hb := blank_le h.le
  rcases hbl : blank S u.at' with ⟨b, j⟩
  rw [hbl] at hb
  cases b with
  | false => exact .inl ⟨j, rfl, by rw [get_open h.err (by rw [h.src]; exact hbl)]⟩
  | true =>
    right
    have hg := get_read h.err h.pos (by rw [h.src]; exact hbl)
    rw [h.src] at hg
    by_cases hj : j < S.length
    · exact .inr ⟨j, rfl, hb.1, hj, hg⟩
    · obtain rfl : j = S.length := by simp only at hb; omega
      refine .inl ⟨rfl, ?_⟩
      rw [hg]
      unfold Sc.read
      exact if_pos (Nat.le_refl S.length)

structure Same2 (u t : Sc) (x y : Sym) (U' V' : List (List UInt8)) : Prop where
  sym : x.sym = y.sym
  val : x.val = y.val
  text : x.text = y.text
  ne : x.sym ≠ 0
  nm : (x.sym ≠ 25 ∧ x.id = 0 ∧ y.id = 0 ∧ U' = u.names ∧ V' = t.names) ∨ (x.sym = 25 ∧ ∃ nm, U' = ins u.names nm ∧ V' = ins t.names nm ∧ x.id = (U'.idxOf nm : Nat) ∧ y.id = (V'.idxOf nm : Nat))

theorem Win.step (W : Win S T p q n) {u t : Sc} {k : Nat} (hk : k ≤ n) (hu : Fine S u) (ua : u.at' = p + k) (ts : t.src = T) (te : t.err = 0) (tp : t.pos = 0) (hV : Kw t.names) (tb : blank T t.at' = blank T (q + k))
    {B : Nat} (hroom : ∀ nm, (nm ∈ u.names ∨ u.names.length < 700) → (ins u.names nm).length ≤ B → nm ∈ t.names ∨ t.names.length < 700) (h0 : u.get.err = 0) (hs : u.get.sym.sym ≠ 0) (hend : u.get.at' ≤ p + n) (hB : u.get.names.length ≤ B) :
    ∃ (j e : Nat) (x y : Sym) (U' V' : List (List UInt8)), k ≤ j ∧ j < e ∧ e ≤ n ∧ blank S u.at' = (true, p + j) ∧ u.get = ⟨S, p + e, x, U', 0, 0⟩ ∧ t.get = ⟨T, q + e, y, V', 0, 0⟩ ∧ x.pos = (p + j : Nat) ∧ y.pos = (q + j : Nat) ∧ Same2 u t x y U' V' := by
  rcases fine_get hu with ⟨j, _, h2⟩ | ⟨_, h2⟩ | ⟨j, h1, h2, h3, h4⟩
  · rw [h2] at h0; cases h0
  · rw [h2] at hs; exact (hs rfl).elim
  · rw [h4] at h0 hend hB hs
    have hb := read_bd hu.kw h3 h0
    obtain ⟨j', rfl⟩ : ∃ j', j = p + j' := ⟨j - p, by omega⟩
    obtain ⟨e, x, y, U', V', g1, g2, g3, g4, g5, g6, g7, g8, g9, g10, g11⟩ := (W.read (k := j') (by omega) hu.kw hV hroom h0 hend hB).out
    rw [ua] at h1
    have hbT : blank t.src t.at' = (true, q + j') := by rw [ts, tb]; exact W.blankIn (by omega) (by omega) h1
    have hg := get_read te tp hbT
    rw [ts] at hg
    exact ⟨j', e, x, y, U', V', by omega, g1, g2, by rw [ua]; exact h1, by rw [h4]; exact g3, by rw [hg]; exact g4, g5, g6, ⟨g7, g8, g9, g10, g11⟩⟩

theorem kwN : Kw allN := ⟨preB, rfl⟩
theorem kwS {u t : Sc} {x y : Sym} {U' V' : List (List UInt8)} (h : Same2 u t x y U' V') (hu : Kw u.names) (ht : Kw t.names) : Kw U' ∧ Kw V' := by
  rcases h.nm with ⟨_, _, _, rfl, rfl⟩ | ⟨_, nm, rfl, rfl, _⟩
  · exact ⟨hu, ht⟩
  · exact ⟨kw_ins hu _, kw_ins ht _⟩
/-- a window of itself. -/
theorem Win.self (S : List Int) : Win S S 0 0 S.length := ⟨by omega, by omega, fun _ _ => rfl, .inr ⟨by omega, by omega⟩⟩

/-- the next symbol of a scanner without an error that is not the end. -/
theorem fine_next {u : Sc} (hu : Fine S u) (h0 : u.get.err = 0) (hs : u.get.sym.sym ≠ 0) : Fine S u.get ∧ ∃ j : Nat, blank S u.at' = (true, j) ∧ u.at' ≤ j ∧ j < u.get.at' ∧ u.get.sym.pos = j ∧ (u.get.names = u.names ∨ ∃ nm, u.get.names = ins u.names nm) := by
  have hle : u.get.at' ≤ 0 + S.length := by
    rcases fine_get hu with ⟨j, _, h2⟩ | ⟨_, h2⟩ | ⟨j, h1, h2, h3, h4⟩
    · rw [h2] at h0; cases h0
    · rw [h2] at hs; exact (hs rfl).elim
    · rw [h4] at h0 ⊢
      have := read_bd hu.kw h3 h0
      omega
  obtain ⟨j, e, x, y, U', V', g1, g2, g3, g4, g5, g6, g7, g8, g9⟩ := (Win.self S).step (k := u.at') (by have := hu.le; omega) hu (by omega) hu.src hu.err hu.pos hu.kw (by rw [Nat.zero_add]) (fun nm h _ => h) h0 hs hle (Nat.le_refl _)
  have hk := kwS g9 hu.kw hu.kw
  rw [g5]
  refine ⟨⟨rfl, rfl, rfl, hk.1, by simp only; omega⟩, j, by rw [Nat.zero_add] at g4; exact g4, g1, by simp only; omega, by simp only; rw [g7]; omega, ?_⟩
  rcases g9.nm with ⟨_, _, _, h, _⟩ | ⟨_, nm, h, _⟩
  · exact .inl h
  · exact .inr ⟨nm, h⟩

end Go.Proofs.Ytdgiijidgjagbaa
