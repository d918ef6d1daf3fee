/- Plain: what a scanner reads at a place of one source, it reads at a place of another one whose next bytes are the same, and where a blank, or the end, follows. No program in sight. -/
import Derived.Test.YtdgiijidgjagbaaScanPlain
namespace Go.Proofs.Ytdgiijidgjagbaa
set_option linter.unusedVariables false
set_option linter.unusedSimpArgs false

/-- n bytes from p on in S, and from q on in T, are the same; behind them T is blank, or both end. -/
structure Win (S T : List Int) (p q n : Nat) : Prop where
  sp : p + n ≤ S.length
  tq : q + n ≤ T.length
  eq : ∀ k, k < n → S.getD (p + k) 0 = T.getD (q + k) 0
  fin : T.getD (q + n) 0 = 32 ∨ (q + n = T.length ∧ p + n = S.length)

variable {S T : List Int} {p q n : Nat}

theorem Win.last (W : Win S T p q n) : T.getD (q + n) 0 = 32 ∨ T.getD (q + n) 0 = 0 := by
  rcases W.fin with h | ⟨h, _⟩
  · exact .inl h
  · exact .inr (getD_end (by omega))

theorem run_eq {pr : Int → Bool} {s : List Int} : ∀ (m i j : Nat), j - i ≤ m → i ≤ j → j ≤ s.length → (∀ x, i ≤ x → x < j → pr (s.getD x 0) = true) → pr (s.getD j 0) = false → run pr s i = j
  | 0, i, j, hm, hij, hj, hall, hs => by
    obtain rfl : i = j := by omega
    exact run_no hs
  | m + 1, i, j, hm, hij, hj, hall, hs => by
    by_cases h : i = j
    · subst h; exact run_no hs
    · rw [run_in (by omega), if_pos (hall i (Nat.le_refl _) (by omega))]
      exact run_eq m (i + 1) j (by omega) (by omega) hj (fun x h1 h2 => hall x (by omega) h2) hs

theorem Win.runW (W : Win S T p q n) {pr : Int → Bool} (h0 : pr 0 = false) (h32 : pr 32 = false) {k e : Nat} (hk : k ≤ e) (he : e ≤ n) (hr : run pr S (p + k) = p + e) : run pr T (q + k) = q + e := by
  refine run_eq _ _ _ (Nat.le_refl _) (by omega) (by have := W.tq; omega) (fun x h1 h2 => ?_) ?_
  · obtain ⟨y, rfl⟩ : ∃ y, x = q + y := ⟨x - q, by omega⟩
    rw [← W.eq y (by omega)]
    exact run_all (p := pr) (s := S) (i := p + k) (by omega) (by omega)
  · by_cases h : e < n
    · rw [← W.eq e h, ← hr]; exact run_stop h0
    · obtain rfl : e = n := by omega
      rcases W.last with h | h <;> rw [h] <;> assumption

theorem Win.cutW (W : Win S T p q n) {i j : Nat} (hij : i ≤ j) (hj : j ≤ n) : cut S (p + i) (p + j) = cut T (q + i) (q + j) := by
  unfold cut
  have h1 := W.sp
  have h2 := W.tq
  apply List.ext_getElem
  · simp only [List.length_take, List.length_drop]; omega
  · intro k h3 h4
    simp only [List.length_take, List.length_drop] at h3 h4
    have := W.eq (i + k) (by omega)
    rw [List.getD_eq_getElem?_getD, List.getD_eq_getElem?_getD, List.getElem?_eq_getElem (by omega), List.getElem?_eq_getElem (by omega)] at this
    simp only [Option.getD_some] at this
    simp only [List.getElem_take, List.getElem_drop]
    simpa only [Nat.add_assoc] using this

theorem Win.opensW (W : Win S T p q n) {k : Nat} (hk : k + 1 < n) : opens S (p + k) = opens T (q + k) := by
  unfold opens
  rw [W.eq k (by omega), Nat.add_assoc, W.eq (k + 1) hk, Nat.add_assoc]
theorem Win.closesW (W : Win S T p q n) {k : Nat} (hk : k + 1 < n) : closes S (p + k) = closes T (q + k) := by
  unfold closes
  rw [W.eq k (by omega), Nat.add_assoc, W.eq (k + 1) hk, Nat.add_assoc]
theorem Win.opensNo (W : Win S T p q n) {k : Nat} (hk : k < n) (h : opens S (p + k) = false) : opens T (q + k) = false := by
  by_cases h1 : k + 1 < n
  · rw [← W.opensW h1]; exact h
  · obtain rfl : k + 1 = n := by omega
    unfold opens
    have := W.last
    rw [← Nat.add_assoc] at this
    rw [Bool.and_eq_false_iff]
    right
    rcases this with h | h <;> rw [h] <;> rfl

theorem comF_gt (s : List Int) : ∀ (n d i j : Nat), comF s n (d + 1) i = some j → i + 2 ≤ j
  | 0, d, i, j, h => by simp [comF] at h
  | n + 1, d, i, j, h => by
    unfold comF at h
    split at h
    · split at h
      · have := comF_gt s n _ _ _ h; omega
      · split at h
        · have := comF_ge s n _ _ _ h; omega
        · have := comF_gt s n _ _ _ h; omega
    · cases h
theorem com_gt {s : List Int} {d i j : Nat} (h : com s (d + 1) i = some j) : i + 2 ≤ j := comF_gt s _ _ _ _ h

theorem Win.comW (W : Win S T p q n) : ∀ (m d k e : Nat), n - k ≤ m → k ≤ e → e ≤ n → com S d (p + k) = some (p + e) → com T d (q + k) = some (q + e)
  | m, 0, k, e, hm, hk, he, h => by
    rw [com_zero] at h ⊢
    simp only [Option.some.injEq] at h ⊢
    omega
  | 0, d + 1, k, e, hm, hk, he, h => by have := com_gt h; omega
  | m + 1, d + 1, k, e, hm, hk, he, h => by
    have hg := com_gt h
    have h1 := W.sp
    have h2 := W.tq
    rw [com_in (by omega)] at h
    rw [com_in (by omega), ← W.opensW (by omega), ← W.closesW (by omega)]
    split at h
    · rename_i ho
      rw [if_pos ho]
      have := com_gt h
      exact W.comW m (d + 2) (k + 2) e (by omega) (by omega) he h
    · rename_i ho
      rw [if_neg ho]
      split at h
      · rename_i hc
        rw [if_pos hc]
        have := com_ge h
        exact W.comW m d (k + 2) e (by omega) (by omega) he h
      · rename_i hc
        rw [if_neg hc]
        have := com_gt h
        exact W.comW m (d + 1) (k + 1) e (by omega) (by omega) he h

theorem blank_stopF (s : List Int) : ∀ (m i : Nat), s.length - i ≤ m → (blank s i).1 = true → (blank s i).2 < s.length → 32 < s.getD (blank s i).2 0 ∧ opens s (blank s i).2 = false
  | m, i, hm, h1, h2 => by
    rcases Nat.lt_or_ge i s.length with hi | hi
    · rw [blank_in hi] at h1 h2 ⊢
      cases m with
      | zero => omega
      | succ m =>
        split at h1
        · rename_i h32
          rw [if_pos h32] at h2 ⊢
          exact blank_stopF s m (i + 1) (by omega) h1 h2
        · rename_i h32
          rw [if_neg h32] at h2 ⊢
          split at h1
          · rename_i ho
            rw [if_pos ho] at h2 ⊢
            cases hc : com s 1 (i + 2) with
            | none => rw [hc] at h1; cases h1
            | some j =>
              rw [hc] at h1 h2
              have := com_ge hc
              exact blank_stopF s m j (by omega) h1 h2
          · rename_i ho
            rw [if_neg ho]
            exact ⟨by simp only; omega, by simpa using ho⟩
    · rw [blank_end hi] at h2; simp only at h2; omega
theorem blank_stop {s : List Int} {i j : Nat} (h : blank s i = (true, j)) (hj : j < s.length) : 32 < s.getD j 0 ∧ opens s j = false := by
  have := blank_stopF s _ i (Nat.le_refl _)
  rw [h] at this
  exact this rfl hj
theorem blank_here {s : List Int} {j : Nat} (h1 : 32 < s.getD j 0) (h2 : opens s j = false) : blank s j = (true, j) := by
  rcases Nat.lt_or_ge j s.length with hj | hj
  · rw [blank_in hj, if_neg (by omega), if_neg (by rw [h2]; decide)]
  · exact blank_end hj

theorem Win.blankFW (W : Win S T p q n) : ∀ (m k e : Nat), n - k ≤ m → k ≤ e → e ≤ n → blank S (p + k) = (true, p + e) → blank T (q + k) = blank T (q + e)
  | m, k, e, hm, hk, he, h => by
    by_cases hke : k = e
    · subst hke; rfl
    · have h1 := W.sp
      have h2 := W.tq
      cases m with
      | zero => omega
      | succ m =>
        rw [blank_in (by omega)] at h
        rw [blank_in (show q + k < T.length by omega), ← W.eq k (by omega)]
        split at h
        · rename_i h32
          rw [if_pos h32]
          exact W.blankFW m (k + 1) e (by omega) (by omega) he h
        · rename_i h32
          rw [if_neg h32]
          split at h
          · rename_i ho
            cases hc : com S 1 (p + k + 2) with
            | none => rw [hc] at h; cases h
            | some j =>
              rw [hc] at h
              simp only at h
              have hg := com_gt hc
              have hl := com_le (by have := opens_lt ho; omega) hc
              have hb := blank_le hl
              rw [h] at hb
              simp only at hb
              obtain ⟨e', rfl⟩ : ∃ e', j = p + e' := ⟨j - p, by omega⟩
              have hT := W.comW _ 1 (k + 2) e' (Nat.le_refl _) (by omega) (by omega) hc
              rw [if_pos (by rw [← W.opensW (by omega)]; exact ho), show q + k + 2 = q + (k + 2) by omega, hT]
              exact W.blankFW m e' e (by omega) (by omega) he h
          · simp only [Prod.mk.injEq] at h; omega
theorem Win.blankW (W : Win S T p q n) {k e : Nat} (hk : k ≤ e) (he : e ≤ n) (h : blank S (p + k) = (true, p + e)) : blank T (q + k) = blank T (q + e) := W.blankFW _ k e (Nat.le_refl _) hk he h
theorem Win.blankIn (W : Win S T p q n) {k e : Nat} (hk : k ≤ e) (he : e < n) (h : blank S (p + k) = (true, p + e)) : blank T (q + k) = (true, q + e) := by
  have h1 := W.sp
  obtain ⟨h2, h3⟩ := blank_stop h (by omega)
  rw [W.blankW hk (by omega) h]
  exact blank_here (by rw [← W.eq e he]; exact h2) (W.opensNo he h3)

end Go.Proofs.Ytdgiijidgjagbaa
