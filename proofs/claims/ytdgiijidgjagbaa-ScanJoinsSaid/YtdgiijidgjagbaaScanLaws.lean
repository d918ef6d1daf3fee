/- Plain: a source with a comment ahead of each symbol has the same symbols; two sources joined have the symbols of both. No program in sight. -/
import Derived.Test.YtdgiijidgjagbaaScanSeq
namespace Go.Proofs.Ytdgiijidgjagbaa
set_option linter.unusedVariables false
set_option linter.unusedSimpArgs false

theorem gets_get (s : Sc) : ∀ n, gets s.get n = gets s (n + 1)
  | 0 => rfl
  | n + 1 => by
    show (gets s.get n).get = (gets s (n + 1)).get
    rw [gets_get s n]
theorem gets_new (S : List Int) (n : Nat) : gets (newS S) n = gets (Sc.fresh S) (n + 1) := gets_get _ n
theorem gets_add (s : Sc) (m : Nat) : ∀ n, gets s (m + n) = gets (gets s m) n
  | 0 => rfl
  | n + 1 => by
    show (gets s (m + n)).get = (gets (gets s m) n).get
    rw [gets_add s m n]
theorem read_end (S : List Int) (U : List (List UInt8)) : (stand S S.length U).read = stand S S.length U := if_pos (Nat.le_refl S.length)
theorem fine_fresh (S : List Int) : Fine S (Sc.fresh S) := ⟨rfl, rfl, rfl, kwN, Nat.zero_le _⟩
theorem inv_err {s : Sc} (h : Inv s) (hs : s.sym.sym ≠ 0) : s.err = 0 := by
  by_cases he : s.err = 0
  · exact he
  · exact (hs (by rw [h he]; rfl)).elim
theorem new_err {S : List Int} {i : Nat} (hs : (gets (newS S) i).sym.sym ≠ 0) : (gets (newS S) i).err = 0 := inv_err (gets_inv (newS_inv S) i) hs

/-- so many symbols, then the end. -/
structure Syms (S : List Int) (m : Nat) : Prop where
  ne : ∀ i, i < m → (gets (newS S) i).sym.sym ≠ 0
  fin : (gets (newS S) m).sym.sym = 0
  err : (gets (newS S) m).err = 0
theorem Syms.fine {S : List Int} {m : Nat} (h : Syms S m) : ∀ i, i ≤ m → Fine S (gets (Sc.fresh S) i)
  | 0, _ => fine_fresh S
  | i + 1, hi => by
    have h1 := h.ne i (by omega)
    have h2 := new_err h1
    rw [gets_new] at h1 h2
    exact (fine_next (h.fine i (by omega)) h2 h1).1
theorem Syms.next {S : List Int} {m : Nat} (h : Syms S m) {i : Nat} (hi : i < m) : ∃ j : Nat, blank S (gets (Sc.fresh S) i).at' = (true, j) ∧ (gets (Sc.fresh S) i).at' ≤ j ∧ j < (gets (Sc.fresh S) (i + 1)).at' ∧ (gets (newS S) i).sym.pos = j ∧ ((gets (Sc.fresh S) (i + 1)).names = (gets (Sc.fresh S) i).names ∨ ∃ nm, (gets (Sc.fresh S) (i + 1)).names = ins (gets (Sc.fresh S) i).names nm) := by
  have h1 := h.ne i hi
  have h2 := new_err h1
  rw [gets_new] at h1 h2 ⊢
  exact (fine_next (h.fine i (by omega)) h2 h1).2
theorem Syms.last {S : List Int} {m : Nat} (h : Syms S m) : blank S (gets (Sc.fresh S) m).at' = (true, S.length) ∧ gets (newS S) m = stand S S.length (gets (Sc.fresh S) m).names := by
  have h1 := h.fin
  have h2 := h.err
  rw [gets_new] at h1 h2 ⊢
  have hf := h.fine m (Nat.le_refl _)
  rcases fine_get hf with ⟨j, _, g⟩ | g | ⟨j, g1, g2, g3, g4⟩
  · have : (gets (Sc.fresh S) (m + 1)).err = 5 := g
    omega
  · exact g
  · exfalso
    have g5 : gets (Sc.fresh S) (m + 1) = (stand S j (gets (Sc.fresh S) m).names).read := g4
    have h3 : (stand S j (gets (Sc.fresh S) m).names).read.err = 0 := by rw [← g5]; exact h2
    obtain ⟨e, x, y, U', V', q1, q2, q3, q4, q5, q6, q7, q8, q9, q10, q11⟩ := ((Win.self S).read (k := j) g3 hf.kw hf.kw (fun nm h _ => h) (by rw [Nat.zero_add]; exact h3) (by rw [Nat.zero_add, Nat.zero_add]; exact (read_bd hf.kw g3 h3).2) (Nat.le_refl _)).out
    rw [Nat.zero_add] at q3
    rw [g5, q3] at h1
    exact q10 h1
theorem names_mono {S : List Int} {m : Nat} (h : Syms S m) (i : Nat) : ∀ d, i + d ≤ m → ∃ r, (gets (Sc.fresh S) (i + d)).names = (gets (Sc.fresh S) i).names ++ r
  | 0, _ => ⟨[], by simp⟩
  | d + 1, hd => by
    obtain ⟨r, hr⟩ := names_mono h i d (by omega)
    obtain ⟨_, _, _, _, _, h5⟩ := h.next (i := i + d) (by omega)
    rcases h5 with h5 | ⟨nm, h5⟩
    · exact ⟨r, by rw [← Nat.add_assoc, h5, hr]⟩
    · unfold ins at h5
      split at h5
      · exact ⟨r, by rw [← Nat.add_assoc, h5, hr]⟩
      · exact ⟨r ++ [nm], by rw [← Nat.add_assoc, h5, hr, List.append_assoc]⟩

/-! ### a comment ahead -/
def comB : List Int := [32, 40, 42, 32, 99, 32, 40, 42, 32, 100, 32, 42, 41, 32, 42, 41, 32]
theorem com_no {T : List Int} {d i : Nat} (hi : i < T.length) (h1 : T.getD i 0 ≠ 40) (h2 : T.getD i 0 ≠ 42) : com T (d + 1) i = com T (d + 1) (i + 1) := by
  rw [com_in hi]
  unfold opens closes
  rw [decide_eq_false h1, decide_eq_false h2]
  rfl
theorem com_open {T : List Int} {d i : Nat} (hi : i < T.length) (h1 : T.getD i 0 = 40) (h2 : T.getD (i + 1) 0 = 42) : com T (d + 1) i = com T (d + 2) (i + 2) := by
  rw [com_in hi, if_pos (by unfold opens; rw [h1, h2]; rfl)]
theorem com_close {T : List Int} {d i : Nat} (hi : i < T.length) (h1 : T.getD i 0 = 42) (h2 : T.getD (i + 1) 0 = 41) : com T (d + 1) i = com T d (i + 2) := by
  rw [com_in hi, if_neg (by unfold opens; rw [h1]; simp), if_pos (by unfold closes; rw [h1, h2]; rfl)]
theorem com_skip {T : List Int} {r : Nat} (h : ∀ x, x < 17 → T.getD (r + x) 0 = comB.getD x 0) (hl : r + 17 ≤ T.length) : blank T r = blank T (r + 17) := by
  have g : ∀ x v, x < 17 → comB.getD x 0 = v → T.getD (r + x) 0 = v := fun x v hx hv => (h x hx).trans hv
  have hc : com T 1 (r + 3) = some (r + 16) := by
    rw [com_no (i := r + 3) (by omega) (by rw [g 3 32 (by decide) rfl]; decide) (by rw [g 3 32 (by decide) rfl]; decide),
      com_no (i := r + 4) (by omega) (by rw [g 4 99 (by decide) rfl]; decide) (by rw [g 4 99 (by decide) rfl]; decide),
      com_no (i := r + 5) (by omega) (by rw [g 5 32 (by decide) rfl]; decide) (by rw [g 5 32 (by decide) rfl]; decide),
      com_open (i := r + 6) (by omega) (g 6 40 (by decide) rfl) (g 7 42 (by decide) rfl),
      com_no (i := r + 8) (by omega) (by rw [g 8 32 (by decide) rfl]; decide) (by rw [g 8 32 (by decide) rfl]; decide),
      com_no (i := r + 9) (by omega) (by rw [g 9 100 (by decide) rfl]; decide) (by rw [g 9 100 (by decide) rfl]; decide),
      com_no (i := r + 10) (by omega) (by rw [g 10 32 (by decide) rfl]; decide) (by rw [g 10 32 (by decide) rfl]; decide),
      com_close (i := r + 11) (by omega) (g 11 42 (by decide) rfl) (g 12 41 (by decide) rfl),
      com_no (i := r + 13) (by omega) (by rw [g 13 32 (by decide) rfl]; decide) (by rw [g 13 32 (by decide) rfl]; decide),
      com_close (i := r + 14) (by omega) (g 14 42 (by decide) rfl) (g 15 41 (by decide) rfl), com_zero]
  have g0 : T.getD r 0 = 32 := g 0 32 (by decide) rfl
  rw [blank_in (i := r) (by omega), if_pos (by rw [g0]; decide), blank_in (i := r + 1) (by omega), if_neg (by rw [g 1 40 (by decide) rfl]; decide),
    if_pos (by unfold opens; rw [g 1 40 (by decide) rfl]; rw [show T.getD (r + 1 + 1) 0 = 42 from g 2 42 (by decide) rfl]; rfl), show r + 1 + 2 = r + 3 from rfl, hc]
  simp only
  rw [blank_in (i := r + 16) (by omega), if_pos (by rw [g 16 32 (by decide) rfl]; decide)]

/-- a piece of a source: from a symbol to the next one. -/
def chunk (S : List Int) (p : Nat → Nat) (m i : Nat) : List Int := cut S (p i) (if i + 1 < m then p (i + 1) else S.length)
def bld (S : List Int) (p : Nat → Nat) (m : Nat) : Nat → List Int
  | 0 => []
  | i + 1 => bld S p m i ++ comB ++ chunk S p m i
theorem bld_pre (S : List Int) (p : Nat → Nat) (m i : Nat) : ∀ d, ∃ r, bld S p m (i + d) = bld S p m i ++ r
  | 0 => ⟨[], by simp⟩
  | d + 1 => by
    obtain ⟨r, hr⟩ := bld_pre S p m i d
    exact ⟨r ++ comB ++ chunk S p m (i + d), by rw [← Nat.add_assoc, bld, hr]; simp only [List.append_assoc]⟩
theorem getD_right (A B : List Int) (x : Nat) : (A ++ B).getD (A.length + x) 0 = B.getD x 0 := by
  rw [List.getD_eq_getElem?_getD, List.getElem?_append_right (by omega), List.getD_eq_getElem?_getD]; congr 2; omega
theorem getD_left {A B : List Int} {x : Nat} (h : x < A.length) : (A ++ B).getD x 0 = A.getD x 0 := by
  rw [List.getD_eq_getElem?_getD, List.getElem?_append_left h, List.getD_eq_getElem?_getD]
theorem cut_getD {S : List Int} {i j x : Nat} (hx : x < j - i) : (cut S i j).getD x 0 = S.getD (i + x) 0 := by
  unfold cut
  rw [List.getD_eq_getElem?_getD, List.getElem?_take, if_pos hx, List.getElem?_drop, List.getD_eq_getElem?_getD]
theorem cut_length {S : List Int} {i j : Nat} (hj : j ≤ S.length) : (cut S i j).length = j - i := by
  unfold cut; rw [List.length_take, List.length_drop]; omega

/-- the window of the i-th piece. -/
theorem chunk_win (S : List Int) (p : Nat → Nat) (m i : Nat) (hi : i < m) (e : Nat) (he : e = if i + 1 < m then p (i + 1) else S.length) (hle : p i ≤ e) (heS : e ≤ S.length) :
    Win S (bld S p m m) (p i) ((bld S p m i).length + 17) (e - p i) ∧ (∀ x, x < 17 → (bld S p m m).getD ((bld S p m i).length + x) 0 = comB.getD x 0) ∧ (bld S p m (i + 1)).length = (bld S p m i).length + 17 + (e - p i) := by
  have hlc : comB.length = 17 := rfl
  have hch : (chunk S p m i).length = e - p i := by unfold chunk; rw [← he, cut_length heS]
  have hl1 : (bld S p m (i + 1)).length = (bld S p m i).length + 17 + (e - p i) := by
    rw [bld, List.length_append, List.length_append, hch, hlc]
  obtain ⟨r, hr⟩ := bld_pre S p m (i + 1) (m - (i + 1))
  rw [show i + 1 + (m - (i + 1)) = m by omega] at hr
  have hT : bld S p m m = bld S p m i ++ (comB ++ (chunk S p m i ++ r)) := by rw [hr, bld]; simp only [List.append_assoc]
  have hlr : (bld S p m m).length = (bld S p m (i + 1)).length + r.length := by rw [hr, List.length_append]
  refine ⟨⟨by omega, by omega, fun k hk => ?_, ?_⟩, fun x hx => ?_, hl1⟩
  · rw [hT, Nat.add_assoc, getD_right, show 17 + k = comB.length + k from rfl, getD_right, getD_left (by omega)]
    unfold chunk
    rw [← he, cut_getD (by omega)]
  · by_cases hm : i + 1 < m
    · left
      obtain ⟨r2, hr2⟩ := bld_pre S p m (i + 2) (m - (i + 2))
      rw [show i + 2 + (m - (i + 2)) = m by omega] at hr2
      have hT2 : bld S p m m = bld S p m (i + 1) ++ (comB ++ (chunk S p m (i + 1) ++ r2)) := by rw [hr2, bld]; simp only [List.append_assoc]
      rw [← hl1, hT2, show (bld S p m (i + 1)).length = (bld S p m (i + 1)).length + 0 from rfl, getD_right]
      rfl
    · right
      have hm1 : m = i + 1 := by omega
      rw [if_neg hm] at he
      refine ⟨by rw [← hl1, ← hm1], by omega⟩
  · rw [hT, getD_right, getD_left (by omega)]

theorem ends_plain {S : List Int} {m : Nat} (h : Syms S m) {p : Nat → Nat} (hp : ∀ i, i < m → (gets (newS S) i).sym.pos = p i) {T : List Int} (hT : T = bld S p m m) :
    (∀ i, i < m → (gets (newS T) i).sym.sym = (gets (newS S) i).sym.sym ∧ (gets (newS T) i).sym.val = (gets (newS S) i).sym.val ∧ (gets (newS T) i).sym.id = (gets (newS S) i).sym.id ∧ (gets (newS T) i).sym.text = (gets (newS S) i).sym.text) ∧ (gets (newS T) m).sym.sym = 0 := by
  have hnx : ∀ i, i < m → blank S (gets (Sc.fresh S) i).at' = (true, p i) ∧ (gets (Sc.fresh S) i).at' ≤ p i ∧ p i < (gets (Sc.fresh S) (i + 1)).at' := fun i hi => by
    obtain ⟨j, h1, h2, h3, h4, _⟩ := h.next hi
    have : j = p i := by have := hp i hi; omega
    subst this
    exact ⟨h1, h2, h3⟩
  -- the end of a piece
  have hee : ∀ i, i < m → ∃ e, e = (if i + 1 < m then p (i + 1) else S.length) ∧ (gets (Sc.fresh S) (i + 1)).at' ≤ e ∧ e ≤ S.length ∧ blank S (gets (Sc.fresh S) (i + 1)).at' = (true, e) := fun i hi => by
    by_cases hm : i + 1 < m
    · refine ⟨_, rfl, ?_⟩
      rw [if_pos hm]
      have h1 := hnx (i + 1) hm
      have h2 := (h.fine (i + 1 + 1) (by omega)).le
      exact ⟨h1.2.1, by omega, h1.1⟩
    · refine ⟨_, rfl, ?_⟩
      rw [if_neg hm]
      have hm1 : m = i + 1 := by omega
      have h2 := (h.fine (i + 1) (by omega)).le
      have h3 := h.last.1
      rw [hm1] at h3
      exact ⟨h2, Nat.le_refl _, h3⟩
  have key : ∀ i, i ≤ m → ((gets (Sc.fresh T) i).src = T ∧ (gets (Sc.fresh T) i).err = 0 ∧ (gets (Sc.fresh T) i).pos = 0 ∧ (gets (Sc.fresh T) i).names = (gets (Sc.fresh S) i).names ∧ blank T (gets (Sc.fresh T) i).at' = blank T (if i < m then (bld S p m i).length + 17 else T.length)) ∧
      (∀ k, k < i → (gets (newS T) k).sym.sym = (gets (newS S) k).sym.sym ∧ (gets (newS T) k).sym.val = (gets (newS S) k).sym.val ∧ (gets (newS T) k).sym.id = (gets (newS S) k).sym.id ∧ (gets (newS T) k).sym.text = (gets (newS S) k).sym.text) := by
    intro i
    induction i with
    | zero =>
      intro _
      refine ⟨⟨rfl, rfl, rfl, rfl, ?_⟩, fun k hk => by omega⟩
      show blank T 0 = _
      by_cases hm : 0 < m
      · rw [if_pos hm]
        obtain ⟨e, he, h1, h2, _⟩ := hee 0 hm
        have h3 := hnx 0 hm
        obtain ⟨w1, w2, w3⟩ := chunk_win S p m 0 hm e he (by omega) h2
        rw [← hT] at w1 w2
        have hb : (bld S p m 0).length = 0 := rfl
        rw [hb] at w1 w2 ⊢
        have := w1.tq
        exact com_skip w2 (by omega)
      · rw [if_neg hm]
        have hm0 : m = 0 := by omega
        subst hm0
        subst hT
        rfl
    | succ i ih =>
      intro hi
      obtain ⟨⟨t1, t2, t3, t4, t5⟩, hs⟩ := ih (by omega)
      rw [if_pos (show i < m by omega)] at t5
      obtain ⟨e, he, h1, h2, h3⟩ := hee i (by omega)
      have hx := hnx i (by omega)
      obtain ⟨w1, w2, w3⟩ := chunk_win S p m i (by omega) e he (by omega) h2
      rw [← hT] at w1 w2
      have hf := h.fine i (by omega)
      have hne := h.ne i (by omega)
      have her := new_err hne
      rw [gets_new] at hne her
      have hpS : p i < S.length := by omega
      have hg : gets (Sc.fresh S) (i + 1) = (stand S (p i) (gets (Sc.fresh S) i).names).read := by
        have := get_read hf.err hf.pos (by rw [hf.src]; exact hx.1)
        rw [hf.src] at this
        exact this
      have hst := blank_stop hx.1 hpS
      have hq0 : T.getD ((bld S p m i).length + 17) 0 = S.getD (p i) 0 := (w1.eq 0 (by omega)).symm
      have hbT : blank T ((bld S p m i).length + 17) = (true, (bld S p m i).length + 17) := blank_here (by rw [hq0]; exact hst.1) (w1.opensNo (k := 0) (by omega) hst.2)
      have hgT : gets (Sc.fresh T) (i + 1) = (stand T ((bld S p m i).length + 17) (gets (Sc.fresh S) i).names).read := by
        have := get_read t2 t3 (by rw [t1]; exact t5.trans hbT)
        rw [t1, t4] at this
        exact this
      rw [hg] at her
      obtain ⟨d, x, y, U', V', q1, q2, q3, q4, q5, q6, q7, q8, q9, q10, q11⟩ := (w1.read (k := 0) (by omega) hf.kw hf.kw (fun nm h _ => h) her (by rw [Nat.add_zero, ← hg]; omega) (Nat.le_refl _)).out
      rw [Nat.add_zero] at q3 q4
      rw [q3] at hg
      rw [q4] at hgT
      have hat : (gets (Sc.fresh S) (i + 1)).at' = p i + d := by rw [hg]
      have hUV : U' = V' ∧ x.id = y.id := by
        rcases q11 with ⟨_, h5, h6, h7, h8⟩ | ⟨_, nm, h5, h6, h7, h8⟩
        · exact ⟨by rw [h7, h8], by rw [h5, h6]⟩
        · subst h5; subst h6; exact ⟨rfl, by rw [h7, h8]⟩
      clear q11
      refine ⟨⟨by rw [hgT], by rw [hgT], by rw [hgT], by rw [hgT, hg]; exact hUV.1.symm, ?_⟩, fun k hk => ?_⟩
      · rw [hgT]
        simp only
        rw [hat] at h3
        have hb2 := w1.blankW (k := d) (e := e - p i) (by omega) (by omega) (by rw [h3, show p i + (e - p i) = e by omega])
        rw [hb2]
        by_cases hm : i + 1 < m
        · rw [if_pos hm]
          obtain ⟨e', he', h1', h2', _⟩ := hee (i + 1) hm
          have hx' := hnx (i + 1) hm
          obtain ⟨w1', w2', w3'⟩ := chunk_win S p m (i + 1) hm e' he' (by omega) h2'
          rw [← hT] at w1' w2'
          have := w1'.tq
          rw [← w3]
          exact com_skip w2' (by omega)
        · rw [if_neg hm, ← w3, hT]
          have hm1 : m = i + 1 := by omega
          rw [← hm1]
      · rcases Nat.lt_or_ge k i with hki | hki
        · exact hs k hki
        · obtain rfl : k = i := by omega
          rw [gets_new, gets_new, hg, hgT]
          exact ⟨q7.symm, q8.symm, hUV.2.symm, q9.symm⟩
  obtain ⟨⟨t1, t2, t3, t4, t5⟩, hs⟩ := key m (Nat.le_refl _)
  refine ⟨hs, ?_⟩
  rw [if_neg (Nat.lt_irrefl _), blank_end (Nat.le_refl _)] at t5
  have := get_read t2 t3 (by rw [t1]; exact t5)
  rw [gets_new]
  show (gets (Sc.fresh T) m).get.sym.sym = 0
  rw [this, t1]
  rw [read_end]
  rfl

/-! ### two sources joined -/
theorem join_win1 (a b : List Int) : Win a (a ++ 32 :: b) 0 0 a.length := by
  refine ⟨by omega, by simp, fun k hk => ?_, .inl ?_⟩
  · rw [Nat.zero_add, getD_left hk]
  · rw [Nat.zero_add, show a.length = a.length + 0 from rfl, getD_right]; rfl
theorem join_win2 (a b : List Int) : Win b (a ++ 32 :: b) 0 (a.length + 1) b.length := by
  refine ⟨by omega, by simp; omega, fun k hk => ?_, .inr ⟨by simp; omega, by omega⟩⟩
  rw [Nat.zero_add, Nat.add_assoc, getD_right, Nat.add_comm 1 k, List.getD_cons_succ]

/-- names of two scanners, the one's among the other's. -/
structure Sub2 (A : Nat) (U V : List (List UInt8)) : Prop where
  u : Kw U
  v : Kw V
  sub : ∀ x ∈ U, x ∈ V
  len : V.length + 57 ≤ A + U.length

theorem joins_plain {a b : List Int} {m k : Nat} (ha : Syms a m) (hb : Syms b k) (hn : (gets (newS a) m).names.length + (gets (newS b) k).names.length ≤ 700) {T : List Int} (hT : T = a ++ 32 :: b) :
    (∀ i, i < m → (gets (newS T) i).sym = (gets (newS a) i).sym) ∧
    (∀ i, i ≤ k → ∃ z w : Sym, (gets (newS T) (m + i)).sym = z ∧ (gets (newS b) i).sym = w ∧ z.sym = w.sym ∧ z.val = w.val ∧ z.text = w.text ∧ z.pos = w.pos + a.length + 1 ∧
      (w.sym = 25 → 0 ≤ w.id ∧ w.id < (gets (newS b) k).names.length ∧ (gets (newS T) (m + i)).nameOf z.id = (gets (newS b) k).names.getD w.id.toNat [])) ∧ (gets (newS T) (m + k)).err = 0 := by
  have W1 := join_win1 a b
  have W2 := join_win2 a b
  rw [← hT] at W1 W2
  -- the first one's
  have key1 : ∀ i, i ≤ m → ((gets (Sc.fresh T) i).src = T ∧ (gets (Sc.fresh T) i).err = 0 ∧ (gets (Sc.fresh T) i).pos = 0 ∧ (gets (Sc.fresh T) i).names = (gets (Sc.fresh a) i).names ∧ (gets (Sc.fresh T) i).at' = (gets (Sc.fresh a) i).at') ∧ (∀ j, j < i → (gets (newS T) j).sym = (gets (newS a) j).sym) := by
    intro i
    induction i with
    | zero => intro _; exact ⟨⟨rfl, rfl, rfl, rfl, rfl⟩, fun j hj => by omega⟩
    | succ i ih =>
      intro hi
      obtain ⟨⟨t1, t2, t3, t4, t5⟩, hs⟩ := ih (by omega)
      have hf := ha.fine i (by omega)
      have hf1 := ha.fine (i + 1) hi
      have hne := ha.ne i (by omega)
      have her := new_err hne
      rw [gets_new] at hne her
      obtain ⟨j, e, x, y, U', V', g1, g2, g3, g4, g5, g6, g7, g8, g9⟩ := W1.step (u := gets (Sc.fresh a) i) (t := gets (Sc.fresh T) i) (k := (gets (Sc.fresh a) i).at') hf.le hf (by omega) t1 t2 t3 (by rw [t4]; exact hf.kw) (by rw [t5, Nat.zero_add]) (fun nm h _ => by rw [t4]; exact h) her hne (by have := hf1.le; rw [Nat.zero_add]; exact this) (Nat.le_refl _)
      have g5' : gets (Sc.fresh a) (i + 1) = ⟨a, 0 + e, x, U', 0, 0⟩ := g5
      have g6' : gets (Sc.fresh T) (i + 1) = ⟨T, 0 + e, y, V', 0, 0⟩ := g6
      have hUV : U' = V' ∧ x.id = y.id := by
        rcases g9.nm with ⟨_, h5, h6, h7, h8⟩ | ⟨_, nm, h5, h6, h7, h8⟩
        · exact ⟨by rw [h7, h8, t4], by rw [h5, h6]⟩
        · rw [t4] at h6; subst h5; subst h6; exact ⟨rfl, by rw [h7, h8]⟩
      have hxy : x = y := by
        obtain ⟨x1, x2, x3, x4, x5⟩ := x
        obtain ⟨y1, y2, y3, y4, y5⟩ := y
        have := g9.sym; have := g9.val; have := g9.text; have := hUV.2
        simp only at *
        subst_vars
        rfl
      refine ⟨⟨by rw [g6'], by rw [g6'], by rw [g6'], by rw [g6', g5']; exact hUV.1.symm, by rw [g6', g5']⟩, fun q hq => ?_⟩
      rcases Nat.lt_or_ge q i with hqi | hqi
      · exact hs q hqi
      · obtain rfl : q = i := by omega
        rw [gets_new, gets_new, g5', g6']
        exact hxy.symm
  obtain ⟨⟨t1, t2, t3, t4, t5⟩, hs⟩ := key1 m (Nat.le_refl _)
  have hlast := ha.last
  have hfa := ha.fine m (Nat.le_refl _)
  have hna : (gets (newS a) m).names = (gets (Sc.fresh a) m).names := by rw [hlast.2]; rfl
  have hnb : (gets (newS b) k).names = (gets (Sc.fresh b) k).names := by rw [hb.last.2]; rfl
  rw [hna, hnb] at hn
  have hb0 : blank T (gets (Sc.fresh T) m).at' = blank T (a.length + 1 + 0) := by
    have h1 := W1.blankW (k := (gets (Sc.fresh a) m).at') (e := a.length) hfa.le (Nat.le_refl _) (by rw [Nat.zero_add, Nat.zero_add]; exact hlast.1)
    rw [Nat.zero_add, Nat.zero_add] at h1
    have h32 : T.getD a.length 0 = 32 := by rw [hT, show a.length = a.length + 0 from rfl, getD_right]; rfl
    rw [t5, h1, blank_in (by have := W2.tq; omega), if_pos (by rw [h32]; decide)]
  -- the names of the first one are no fewer than the known ones
  have hA : 57 ≤ (gets (Sc.fresh a) m).names.length := by
    obtain ⟨r, hr⟩ := names_mono ha 0 m (by omega)
    rw [Nat.zero_add] at hr
    rw [hr, List.length_append]
    have : (gets (Sc.fresh a) 0).names.length = 57 := rfl
    omega
  have hsub0 : ∀ x ∈ allN, x ∈ (gets (Sc.fresh T) m).names := fun x hx => by
    obtain ⟨r, hr⟩ := names_mono ha 0 m (by omega)
    rw [Nat.zero_add] at hr
    rw [t4, hr]
    exact List.mem_append_left _ hx
  have hin : ∀ i, i ≤ k → ∃ r, (gets (Sc.fresh b) k).names = (gets (Sc.fresh b) i).names ++ r := fun i hi => by
    obtain ⟨r, hr⟩ := names_mono hb i (k - i) (by omega)
    exact ⟨r, by rw [show i + (k - i) = k by omega] at hr; exact hr⟩
  have key2 : ∀ i, i ≤ k → ((gets (Sc.fresh T) (m + i)).src = T ∧ (gets (Sc.fresh T) (m + i)).err = 0 ∧ (gets (Sc.fresh T) (m + i)).pos = 0 ∧ Sub2 (gets (Sc.fresh a) m).names.length (gets (Sc.fresh b) i).names (gets (Sc.fresh T) (m + i)).names ∧ blank T (gets (Sc.fresh T) (m + i)).at' = blank T (a.length + 1 + (gets (Sc.fresh b) i).at')) ∧
      (∀ j, j < i → ∃ z w : Sym, (gets (newS T) (m + j)).sym = z ∧ (gets (newS b) j).sym = w ∧ z.sym = w.sym ∧ z.val = w.val ∧ z.text = w.text ∧ z.pos = w.pos + a.length + 1 ∧
        (w.sym = 25 → 0 ≤ w.id ∧ w.id < (gets (newS b) k).names.length ∧ (gets (newS T) (m + j)).nameOf z.id = (gets (newS b) k).names.getD w.id.toNat [])) := by
    intro i
    induction i with
    | zero =>
      intro _
      exact ⟨⟨t1, t2, t3, ⟨kwN, by rw [Nat.add_zero, t4]; exact hfa.kw, hsub0, by show (gets (Sc.fresh T) m).names.length + 57 ≤ _; rw [t4]; exact Nat.le_refl _⟩, hb0⟩, fun j hj => by omega⟩
    | succ i ih =>
      intro hi
      obtain ⟨⟨r1, r2, r3, r4, r5⟩, hs2⟩ := ih (by omega)
      have hf := hb.fine i (by omega)
      have hf1 := hb.fine (i + 1) hi
      have hne := hb.ne i (by omega)
      have her := new_err hne
      rw [gets_new] at hne her
      obtain ⟨rr, hrr⟩ := hin (i + 1) hi
      have hlen : (gets (Sc.fresh b) (i + 1)).names.length ≤ (gets (Sc.fresh b) k).names.length := by rw [hrr, List.length_append]; omega
      obtain ⟨j, e, x, y, U', V', g1, g2, g3, g4, g5, g6, g7, g8, g9⟩ := W2.step (u := gets (Sc.fresh b) i) (t := gets (Sc.fresh T) (m + i)) (k := (gets (Sc.fresh b) i).at') hf.le hf (by omega) r1 r2 r3 r4.v r5 (B := (gets (Sc.fresh b) k).names.length) (fun nm h h' => by
        by_cases hm : nm ∈ (gets (Sc.fresh b) i).names
        · exact .inl (r4.sub _ hm)
        · right
          unfold ins at h'
          rw [if_neg hm, List.length_append, List.length_singleton] at h'
          have := r4.len
          omega) her hne (by have := hf1.le; rw [Nat.zero_add]; exact this) hlen
      have g5' : gets (Sc.fresh b) (i + 1) = ⟨b, 0 + e, x, U', 0, 0⟩ := g5
      have g6' : gets (Sc.fresh T) (m + (i + 1)) = ⟨T, a.length + 1 + e, y, V', 0, 0⟩ := g6
      have hkw := kwS g9 hf.kw r4.v
      have hS2 : Sub2 (gets (Sc.fresh a) m).names.length U' V' := by
        rcases g9.nm with ⟨_, _, _, h7, h8⟩ | ⟨_, nm, h7, h8, _⟩
        · rw [h7, h8]; exact r4
        · refine ⟨hkw.1, hkw.2, fun z hz => ?_, ?_⟩
          · rw [h7] at hz
            rw [h8]
            unfold ins at hz
            split at hz
            · exact sub_ins (r4.sub _ hz)
            · rw [List.mem_append, List.mem_singleton] at hz
              rcases hz with hz | rfl
              · exact sub_ins (r4.sub _ hz)
              · exact mem_ins _ _
          · rw [h7, h8]
            have h9 := r4.len
            unfold ins
            by_cases hu : nm ∈ (gets (Sc.fresh b) i).names
            · rw [if_pos hu, if_pos (r4.sub _ hu)]; exact h9
            · rw [if_neg hu]
              split <;> simp only [List.length_append, List.length_singleton] <;> omega
      refine ⟨⟨by rw [g6'], by rw [g6'], by rw [g6'], by rw [g6', g5']; exact hS2, by rw [g6', g5', Nat.zero_add]⟩, fun q hq => ?_⟩
      rcases Nat.lt_or_ge q i with hqi | hqi
      · exact hs2 q hqi
      · obtain rfl : q = i := by omega
        rw [gets_new, gets_new, Nat.add_assoc, g5', g6']
        refine ⟨_, _, rfl, rfl, g9.sym.symm, g9.val.symm, g9.text.symm, by simp only; rw [g7, g8]; omega, fun h25 => ?_⟩
        simp only at h25 ⊢
        rcases g9.nm with ⟨h, _⟩ | ⟨_, nm, h7, h8, h9, h10⟩
        · exact (h h25).elim
        · have m1 : nm ∈ U' := by rw [h7]; exact mem_ins _ _
          have m2 : nm ∈ V' := by rw [h8]; exact mem_ins _ _
          have l1 := List.idxOf_lt_length_of_mem m1
          have l2 := List.idxOf_lt_length_of_mem m2
          have hU : (gets (Sc.fresh b) (q + 1)).names = U' := by rw [g5']
          rw [hU] at hrr
          rw [hnb, hrr, h9, h10]
          refine ⟨by omega, by rw [List.length_append]; omega, ?_⟩
          unfold Sc.nameOf
          rw [if_pos (by simp only; omega)]
          simp only [Int.toNat_natCast]
          rw [List.getD_eq_getElem?_getD, List.getD_eq_getElem?_getD, List.getElem?_append_left l1, List.getElem?_eq_getElem l2, List.getElem?_eq_getElem l1]
          simp only [Option.getD_some, List.getElem_idxOf]
  obtain ⟨⟨r1, r2, r3, r4, r5⟩, hs2⟩ := key2 k (Nat.le_refl _)
  have hlb := hb.last
  have hfb := hb.fine k (Nat.le_refl _)
  have hend : gets (newS T) (m + k) = stand T T.length (gets (Sc.fresh T) (m + k)).names := by
    have h1 := W2.blankW (k := (gets (Sc.fresh b) k).at') (e := b.length) hfb.le (Nat.le_refl _) (by rw [Nat.zero_add, Nat.zero_add]; exact hlb.1)
    have hl : a.length + 1 + b.length = T.length := by rw [hT]; simp; omega
    rw [hl, blank_end (Nat.le_refl _)] at h1
    have := get_read r2 r3 (by rw [r1]; exact r5.trans h1)
    rw [gets_new]
    show (gets (Sc.fresh T) (m + k)).get = _
    rw [this, r1, read_end]
  refine ⟨hs, fun i hi => ?_, by rw [hend]; rfl⟩
  rcases Nat.lt_or_ge i k with hik | hik
  · exact hs2 i hik
  · obtain rfl : i = k := by omega
    rw [hend, hlb.2]
    refine ⟨_, _, rfl, rfl, rfl, rfl, rfl, ?_, fun h => ?_⟩
    · have hl : a.length + 1 + b.length = T.length := by rw [hT]; simp; omega
      show (T.length : Int) = (b.length : Int) + a.length + 1
      omega
    · exact absurd h (show ¬ (0 : Int) = 25 by decide)

end Go.Proofs.Ytdgiijidgjagbaa
