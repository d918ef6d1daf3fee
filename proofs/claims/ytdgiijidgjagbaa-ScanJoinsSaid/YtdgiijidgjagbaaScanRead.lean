/- Plain: a symbol that is read in a window of one source is read in a window of another one. No program in sight. -/
import Derived.Test.YtdgiijidgjagbaaScanWin
import Derived.Test.YtdgiijidgjagbaaScanInv
namespace Go.Proofs.Ytdgiijidgjagbaa
set_option linter.unusedVariables false
set_option linter.unusedSimpArgs false

/-- a scanner that stands before a symbol. -/
def stand (S : List Int) (j : Nat) (U : List (List UInt8)) : Sc := ⟨S, j, Sym.at j, U, 0, 0⟩
def Sc.read (s : Sc) : Sc :=
  if s.src.length ≤ s.at' then s
  else if letterB (s.src.getD s.at' 0) then s.name
  else if digitB (s.src.getD s.at' 0) then s.number
  else if s.src.getD s.at' 0 = 34 then s.text
  else s.sign
theorem get_read {s : Sc} (h : s.err = 0) (hp : s.pos = 0) {j : Nat} (hb : blank s.src s.at' = (true, j)) : s.get = (stand s.src j s.names).read := by
  obtain ⟨src, at', sym, names, err, pos⟩ := s
  simp only at h hp hb
  subst h; subst hp
  unfold Sc.get Sc.read stand
  simp only [hb]
  rfl
theorem get_open {s : Sc} (h : s.err = 0) {j : Nat} (hb : blank s.src s.at' = (false, j)) : s.get = { s with at' := s.src.length, err := 5, pos := (j : Int), sym := Sym.at j } := by
  unfold Sc.get
  rw [if_neg (by omega)]
  simp only [hb, if_true]
  exact markAt_new (s := { s with at' := s.src.length }) h (by decide) _

def ins (U : List (List UInt8)) (x : List UInt8) : List (List UInt8) := if x ∈ U then U else U ++ [x]
theorem mem_ins (U : List (List UInt8)) (x : List UInt8) : x ∈ ins U x := by unfold ins; split <;> simp [*]
theorem sub_ins {U : List (List UInt8)} {x y : List UInt8} (h : y ∈ U) : y ∈ ins U x := by unfold ins; split <;> simp [h]
theorem idx_app {U : List (List UInt8)} {x : List UInt8} (h : x ∉ U) : (U ++ [x]).idxOf x = U.length := by
  rw [List.idxOf_append, if_neg h]; simp
theorem intern_ok {S : List Int} {j : Nat} {y : Sym} {U : List (List UInt8)} {x : List UInt8} (h : x ∈ U ∨ U.length < 700) : (⟨S, j, y, U, 0, 0⟩ : Sc).intern x = (((ins U x).idxOf x : Int), ⟨S, j, y, ins U x, 0, 0⟩) := by
  unfold Sc.intern ins
  by_cases hx : x ∈ U
  · simp only [if_pos hx]
  · simp only [if_neg hx]
    rw [if_neg (by rcases h with h | h; exact (hx h).elim; omega), idx_app hx]
theorem intern_no {S : List Int} {j : Nat} {y : Sym} {U : List (List UInt8)} {x : List UInt8} (h : x ∉ U) (h2 : 700 ≤ U.length) : (⟨S, j, y, U, 0, 0⟩ : Sc).intern x = (-1, ⟨S, j, Sym.at y.pos, U, 62, y.pos⟩) := by
  unfold Sc.intern
  simp only [if_neg h, if_pos h2]
  unfold Sc.mark
  rw [markAt_new rfl (by decide)]

/-- the keywords stand first. -/
def Kw (U : List (List UInt8)) : Prop := ∃ r, U = kwB ++ r
theorem kw_idx {U : List (List UInt8)} (h : Kw U) (x : List UInt8) : (x ∈ kwB → U.idxOf x = kwB.idxOf x ∧ U.idxOf x < 29 ∧ x ∈ U) ∧ (x ∉ kwB → 29 ≤ U.idxOf x) := by
  obtain ⟨r, rfl⟩ := h
  rw [List.idxOf_append]
  refine ⟨fun hx => ?_, fun hx => ?_⟩
  · rw [if_pos hx]; exact ⟨rfl, List.idxOf_lt_length_of_mem hx, List.mem_append_left _ hx⟩
  · rw [if_neg hx]; have : kwB.length = 29 := rfl
    omega
theorem kw_ins {U : List (List UInt8)} (h : Kw U) (x : List UInt8) : Kw (ins U x) := by
  unfold ins; split
  · exact h
  · obtain ⟨r, rfl⟩ := h; exact ⟨r ++ [x], by rw [List.append_assoc]⟩

variable {S T : List Int} {p q n : Nat}
theorem Win.runI (W : Win S T p q n) {pr : Int → Bool} (h0 : pr 0 = false) {k e : Nat} (hk : k ≤ e) (he : e < n) (hr : run pr S (p + k) = p + e) : run pr T (q + k) = q + e := by
  refine run_eq _ _ _ (Nat.le_refl _) (by omega) (by have := W.tq; omega) (fun x h1 h2 => ?_) ?_
  · obtain ⟨y, rfl⟩ : ∃ y, x = q + y := ⟨x - q, by omega⟩
    rw [← W.eq y (by omega)]
    exact run_all (p := pr) (s := S) (i := p + k) (by omega) (by omega)
  · rw [← W.eq e he, ← hr]; exact run_stop h0

/-- the same is read in both. -/
structure Both (S T : List Int) (p q n k : Nat) (U V : List (List UInt8)) : Prop where
  out : ∃ (e : Nat) (x y : Sym) (U' V' : List (List UInt8)), k < e ∧ e ≤ n ∧ (stand S (p + k) U).read = ⟨S, p + e, x, U', 0, 0⟩ ∧ (stand T (q + k) V).read = ⟨T, q + e, y, V', 0, 0⟩ ∧
    x.pos = (p + k : Nat) ∧ y.pos = (q + k : Nat) ∧ x.sym = y.sym ∧ x.val = y.val ∧ x.text = y.text ∧ x.sym ≠ 0 ∧
    ((x.sym ≠ 25 ∧ x.id = 0 ∧ y.id = 0 ∧ U' = U ∧ V' = V) ∨ (x.sym = 25 ∧ ∃ nm, U' = ins U nm ∧ V' = ins V nm ∧ x.id = (U'.idxOf nm : Nat) ∧ y.id = (V'.idxOf nm : Nat)))

theorem read_name {S : List Int} {j : Nat} {U : List (List UInt8)} (hj : j < S.length) (hl : letterB (S.getD j 0) = true) : (stand S j U).read = (stand S j U).name := by
  unfold Sc.read stand
  simp only [if_neg (show ¬ S.length ≤ j by omega), hl, if_true]
theorem read_number {S : List Int} {j : Nat} {U : List (List UInt8)} (hj : j < S.length) (hl : letterB (S.getD j 0) = false) (hd : digitB (S.getD j 0) = true) : (stand S j U).read = (stand S j U).number := by
  unfold Sc.read stand
  simp only [if_neg (show ¬ S.length ≤ j by omega), hl, hd, if_true]
  rfl
theorem read_text {S : List Int} {j : Nat} {U : List (List UInt8)} (hj : j < S.length) (h : S.getD j 0 = 34) : (stand S j U).read = (stand S j U).text := by
  unfold Sc.read stand
  simp only [if_neg (show ¬ S.length ≤ j by omega), h]
  rfl
theorem read_sign {S : List Int} {j : Nat} {U : List (List UInt8)} (hj : j < S.length) (hl : letterB (S.getD j 0) = false) (hd : digitB (S.getD j 0) = false) (h : S.getD j 0 ≠ 34) : (stand S j U).read = (stand S j U).sign := by
  unfold Sc.read stand
  simp only [if_neg (show ¬ S.length ≤ j by omega), hl, hd, if_neg h]
  rfl

theorem name_read {S : List Int} {j : Nat} {U : List (List UInt8)} {e : Nat} (he : run ldB S j = e) (hK : Kw U) :
    (e - j ≤ 15 ∧ (byt (cut S j e) ∈ U ∨ U.length < 700) ∧ (stand S j U).name = ⟨S, e, if byt (cut S j e) ∈ kwB then ⟨30 + (kwB.idxOf (byt (cut S j e)) : Nat), j, 0, 0, []⟩ else ⟨25, j, 0, ((ins U (byt (cut S j e))).idxOf (byt (cut S j e)) : Nat), []⟩, ins U (byt (cut S j e)), 0, 0⟩) ∨
    (15 < e - j ∧ (stand S j U).name = ⟨S, e, Sym.at j, U, 3, j⟩) ∨ (e - j ≤ 15 ∧ byt (cut S j e) ∉ U ∧ 700 ≤ U.length ∧ (stand S j U).name = ⟨S, e, Sym.at j, U, 62, j⟩) := by
  unfold Sc.name stand
  simp only [he]
  by_cases h15 : 15 < e - j
  · right; left
    refine ⟨h15, ?_⟩
    rw [if_pos h15]
    unfold Sc.mark
    rw [markAt_new rfl (by decide)]
    rfl
  · rw [if_neg h15]
    by_cases hx : byt (cut S j e) ∈ U ∨ U.length < 700
    · left
      refine ⟨by omega, hx, ?_⟩
      rw [intern_ok hx]
      simp only
      rw [if_neg (by omega)]
      have hk := kw_idx (kw_ins hK (byt (cut S j e))) (byt (cut S j e))
      by_cases hm : byt (cut S j e) ∈ kwB
      · rw [if_pos hm, if_pos (by have := (hk.1 hm).2.1; omega), (hk.1 hm).1]
      · rw [if_neg hm, if_neg (by have := hk.2 hm; omega)]
        rfl
    · right; right
      have hx1 := not_or.1 hx
      refine ⟨by omega, hx1.1, by omega, ?_⟩
      rw [intern_no hx1.1 (by omega)]
      simp only
      rw [if_pos (by decide)]
      rfl

theorem Win.name (W : Win S T p q n) {k : Nat} (hk : k < n) {U V : List (List UInt8)} (hU : Kw U) (hV : Kw V) {B : Nat} (hroom : ∀ nm, (nm ∈ U ∨ U.length < 700) → (ins U nm).length ≤ B → nm ∈ V ∨ V.length < 700)
    (hl : letterB (S.getD (p + k) 0) = true) (h0 : (stand S (p + k) U).read.err = 0) (hend : (stand S (p + k) U).read.at' ≤ p + n) (hB : (stand S (p + k) U).read.names.length ≤ B) : Both S T p q n k U V := by
  have hsp := W.sp
  have htq := W.tq
  have hlT : letterB (T.getD (q + k) 0) = true := by rw [← W.eq k hk]; exact hl
  rw [read_name (by omega) hl] at h0 hend hB
  obtain ⟨e0, he0⟩ : ∃ e0, run ldB S (p + k) = e0 := ⟨_, rfl⟩
  rcases name_read he0 hU with ⟨h1, h2, h3⟩ | ⟨_, h3⟩ | ⟨_, _, _, h3⟩
  · rw [h3] at hend hB
    simp only at hend hB
    have hy := run_yes (p := ldB) rfl (by unfold ldB; rw [hl]; rfl : ldB (S.getD (p + k) 0) = true)
    have hle := run_le (p := ldB) (s := S) (i := p + k + 1) (by omega)
    rw [← hy.1, he0] at hle
    obtain ⟨e, rfl⟩ : ∃ e, e0 = p + e := ⟨e0 - p, by omega⟩
    have hT := W.runW (pr := ldB) rfl rfl (k := k) (e := e) (by omega) (by omega) he0
    have hc := W.cutW (i := k) (j := e) (by omega) (by omega)
    rcases name_read (U := V) hT hV with ⟨g1, g2, g3⟩ | ⟨g1, _⟩ | ⟨_, g2, g4, _⟩
    · rw [← hc] at g3
      refine ⟨e, _, _, _, _, by omega, by omega, by rw [read_name (by omega) hl, h3], by rw [read_name (by omega) hlT, g3], ?_⟩
      by_cases hm : byt (_root_.Go.Proofs.Ytdgiijidgjagbaa.cut S (p + k) (p + e)) ∈ kwB
      · rw [if_pos hm, if_pos hm]
        refine ⟨rfl, rfl, rfl, rfl, rfl, by simp only; omega, .inl ⟨?_, rfl, rfl, ?_, ?_⟩⟩
        · simp only; omega
        · unfold ins; rw [if_pos ((kw_idx hU _).1 hm).2.2]
        · unfold ins; rw [if_pos ((kw_idx hV _).1 hm).2.2]
      · rw [if_neg hm, if_neg hm]
        exact ⟨rfl, rfl, rfl, rfl, rfl, (show (25 : Int) ≠ 0 by decide), .inr ⟨rfl, _, rfl, rfl, rfl, rfl⟩⟩
    · omega
    · rw [← hc] at g2
      rcases hroom _ h2 hB with h | h
      · exact (g2 h).elim
      · omega
  · rw [h3] at h0; cases h0
  · rw [h3] at h0; cases h0

theorem Win.number (W : Win S T p q n) {k : Nat} (hk : k < n) {U V : List (List UInt8)}
    (hl : letterB (S.getD (p + k) 0) = false) (hd : digitB (S.getD (p + k) 0) = true) (h0 : (stand S (p + k) U).read.err = 0) (hend : (stand S (p + k) U).read.at' ≤ p + n) : Both S T p q n k U V := by
  have hsp := W.sp
  have htq := W.tq
  have hlT : letterB (T.getD (q + k) 0) = false := by rw [← W.eq k hk]; exact hl
  have hdT : digitB (T.getD (q + k) 0) = true := by rw [← W.eq k hk]; exact hd
  rw [read_number (by omega) hl hd] at h0 hend
  obtain ⟨e0, he0⟩ : ∃ e0, run hexB S (p + k) = e0 := ⟨_, rfl⟩
  have hy := run_yes (p := hexB) rfl (by unfold hexB; rw [hd]; rfl : hexB (S.getD (p + k) 0) = true)
  have hle := run_le (p := hexB) (s := S) (i := p + k + 1) (by omega)
  rw [← hy.1, he0] at hle
  obtain ⟨e, rfl⟩ : ∃ e, e0 = p + e := ⟨e0 - p, by omega⟩
  unfold Sc.number stand at h0 hend
  simp only [he0] at h0 hend
  by_cases hh : S.getD (p + e) 0 = 72 ∨ S.getD (p + e) 0 = 88
  · rw [if_pos hh] at h0 hend
    by_cases hbad : 8 < sig (_root_.Go.Proofs.Ytdgiijidgjagbaa.cut S (p + k) (p + e)) ∨ (S.getD (p + e) 0 = 88 ∧ 255 < hexN (_root_.Go.Proofs.Ytdgiijidgjagbaa.cut S (p + k) (p + e)))
    · rw [if_pos hbad] at h0
      unfold Sc.mark at h0
      rw [markAt_new rfl (by decide)] at h0
      cases h0
    · rw [if_neg hbad] at hend
      simp only at hend
      have hT := W.runI (pr := hexB) rfl (k := k) (e := e) (by omega) (by omega) he0
      have hc := W.cutW (i := k) (j := e) (by omega) (by omega)
      have hb := W.eq e (by omega)
      have r1 : (stand S (p + k) U).read = ⟨S, p + (e + 1), ⟨if S.getD (p + e) 0 = 88 then 27 else 26, (p + k : Nat), i32 (hexN (_root_.Go.Proofs.Ytdgiijidgjagbaa.cut S (p + k) (p + e))), 0, []⟩, U, 0, 0⟩ := by
        rw [read_number (by omega) hl hd]
        unfold Sc.number stand
        simp only [he0]
        rw [if_pos hh, if_neg hbad]
        rfl
      have r2 : (stand T (q + k) V).read = ⟨T, q + (e + 1), ⟨if S.getD (p + e) 0 = 88 then 27 else 26, (q + k : Nat), i32 (hexN (_root_.Go.Proofs.Ytdgiijidgjagbaa.cut S (p + k) (p + e))), 0, []⟩, V, 0, 0⟩ := by
        rw [read_number (by omega) hlT hdT]
        unfold Sc.number stand
        simp only [hT]
        rw [← hb, ← hc, if_pos hh, if_neg hbad]
        rfl
      refine ⟨e + 1, _, _, _, _, by omega, by omega, r1, r2, rfl, rfl, rfl, rfl, rfl, ?_, .inl ⟨?_, rfl, rfl, rfl, rfl⟩⟩ <;> (simp only; split <;> decide)
  · rw [if_neg hh] at h0 hend
    by_cases hbad : (_root_.Go.Proofs.Ytdgiijidgjagbaa.cut S (p + k) (p + e)).all digitB = false ∨ 2147483647 < decN (_root_.Go.Proofs.Ytdgiijidgjagbaa.cut S (p + k) (p + e))
    · rw [if_pos hbad] at h0
      unfold Sc.mark at h0
      rw [markAt_new rfl (by decide)] at h0
      cases h0
    · rw [if_neg hbad] at hend
      simp only at hend
      have hT := W.runW (pr := hexB) rfl rfl (k := k) (e := e) (by omega) (by omega) he0
      have hc := W.cutW (i := k) (j := e) (by omega) (by omega)
      have hhT : ¬ (T.getD (q + e) 0 = 72 ∨ T.getD (q + e) 0 = 88) := by
        by_cases hlt : e < n
        · rw [← W.eq e hlt]; exact hh
        · obtain rfl : e = n := by omega
          rcases W.last with h | h <;> rw [h] <;> decide
      have r1 : (stand S (p + k) U).read = ⟨S, p + e, ⟨26, (p + k : Nat), decN (_root_.Go.Proofs.Ytdgiijidgjagbaa.cut S (p + k) (p + e)), 0, []⟩, U, 0, 0⟩ := by
        rw [read_number (by omega) hl hd]
        unfold Sc.number stand
        simp only [he0]
        rw [if_neg hh, if_neg hbad]
        rfl
      have r2 : (stand T (q + k) V).read = ⟨T, q + e, ⟨26, (q + k : Nat), decN (_root_.Go.Proofs.Ytdgiijidgjagbaa.cut S (p + k) (p + e)), 0, []⟩, V, 0, 0⟩ := by
        rw [read_number (by omega) hlT hdT]
        unfold Sc.number stand
        simp only [hT]
        rw [← hc, if_neg hhT, if_neg hbad]
        rfl
      exact ⟨e, _, _, _, _, by omega, by omega, r1, r2, rfl, rfl, rfl, rfl, rfl, (show (26 : Int) ≠ 0 by decide), .inl ⟨(show (26 : Int) ≠ 25 by decide), rfl, rfl, rfl, rfl⟩⟩

theorem Win.text (W : Win S T p q n) {k : Nat} (hk : k < n) {U V : List (List UInt8)}
    (hq : S.getD (p + k) 0 = 34) (h0 : (stand S (p + k) U).read.err = 0) (hend : (stand S (p + k) U).read.at' ≤ p + n) : Both S T p q n k U V := by
  have hsp := W.sp
  have htq := W.tq
  have hqT : T.getD (q + k) 0 = 34 := by rw [← W.eq k hk]; exact hq
  rw [read_text (by omega) hq] at h0 hend
  obtain ⟨e0, he0⟩ : ∃ e0, run strB S (p + k + 1) = e0 := ⟨_, rfl⟩
  have hle := run_le (p := strB) (s := S) (i := p + k + 1) (by omega)
  rw [he0] at hle
  obtain ⟨e, rfl⟩ : ∃ e, e0 = p + e := ⟨e0 - p, by omega⟩
  unfold Sc.text stand at h0 hend
  simp only [he0] at h0 hend
  by_cases hbad : S.getD (p + e) 0 ≠ 34 ∨ 63 < p + e - (p + k + 1)
  · rw [if_pos hbad] at h0
    unfold Sc.mark at h0
    rw [markAt_new rfl (by decide)] at h0
    cases h0
  · rw [if_neg hbad] at hend
    simp only at hend
    have hT := W.runI (pr := strB) rfl (k := k + 1) (e := e) (by omega) (by omega) he0
    have hc := W.cutW (i := k + 1) (j := e) (by omega) (by omega)
    have hb := W.eq e (by omega)
    have hb1 : p + e - (p + k + 1) = 1 → S.getD (p + k + 1) 0 = T.getD (q + k + 1) 0 := fun h => W.eq (k + 1) (by omega)
    have hbadT : ¬ (T.getD (q + e) 0 ≠ 34 ∨ 63 < q + e - (q + k + 1)) := by rw [← hb]; intro h; exact hbad (h.imp id (fun h => by omega))
    have r1 : (stand S (p + k) U).read = ⟨S, p + (e + 1), ⟨28, (p + k : Nat), if p + e - (p + k + 1) = 1 then S.getD (p + k + 1) 0 else 0, 0, byt (_root_.Go.Proofs.Ytdgiijidgjagbaa.cut S (p + k + 1) (p + e))⟩, U, 0, 0⟩ := by
      rw [read_text (by omega) hq]
      unfold Sc.text stand
      simp only [he0]
      rw [if_neg hbad]
      rfl
    have r2 : (stand T (q + k) V).read = ⟨T, q + (e + 1), ⟨28, (q + k : Nat), if p + e - (p + k + 1) = 1 then S.getD (p + k + 1) 0 else 0, 0, byt (_root_.Go.Proofs.Ytdgiijidgjagbaa.cut S (p + k + 1) (p + e))⟩, V, 0, 0⟩ := by
      rw [read_text (by omega) hqT]
      unfold Sc.text stand
      rw [← Nat.add_assoc] at hT
      simp only [hT]
      rw [if_neg hbadT]
      rw [show p + k + 1 = p + (k + 1) by omega, hc]
      by_cases h1 : p + e - (p + (k + 1)) = 1
      · rw [if_pos h1, if_pos (by omega), ← hb1 h1]
        rfl
      · rw [if_neg h1, if_neg (by omega)]
        rfl
    exact ⟨e + 1, _, _, _, _, by omega, by omega, r1, r2, rfl, rfl, rfl, rfl, rfl, by simp only; decide, .inl ⟨by simp only; decide, rfl, rfl, rfl, rfl⟩⟩

/-- a sign's number and length. -/
def signN (b : Int) (two : Bool) : Option (Int × Nat) :=
  if b = 60 ∨ b = 62 ∨ b = 58 then some (if two then ((if b = 60 then 3 else if b = 62 then 5 else 23) + 1, 2) else (if b = 60 then 3 else if b = 62 then 5 else 23, 1))
  else if b = 61 then some (1, 1)
  else if b = 35 then some (2, 1)
  else if b ∈ signs then some (7 + (signs.idxOf b : Nat), 1)
  else none
theorem sign_read {S : List Int} {j : Nat} {U : List (List UInt8)} : (stand S j U).sign = match signN (S.getD j 0) (decide (S.getD (j + 1) 0 = 61)) with
    | some (m, d) => ⟨S, j + d, ⟨m, j, 0, 0, []⟩, U, 0, 0⟩
    | none => ⟨S, j + 1, Sym.at j, U, 1, j⟩ := by
  unfold Sc.sign stand signN
  simp only
  by_cases h1 : S.getD j 0 = 60 ∨ S.getD j 0 = 62 ∨ S.getD j 0 = 58
  · rw [if_pos h1, if_pos h1]
    cases decide (S.getD (j + 1) 0 = 61) <;> rfl
  · rw [if_neg h1, if_neg h1]
    by_cases h2 : S.getD j 0 = 61
    · rw [if_pos h2, if_pos h2]; rfl
    · rw [if_neg h2, if_neg h2]
      by_cases h3 : S.getD j 0 = 35
      · rw [if_pos h3, if_pos h3]; rfl
      · rw [if_neg h3, if_neg h3]
        by_cases h4 : S.getD j 0 ∈ signs
        · rw [if_pos h4, if_pos h4]; rfl
        · rw [if_neg h4, if_neg h4]
          unfold Sc.mark
          rw [markAt_new rfl (by decide)]
          rfl
theorem signN_bd {b : Int} {two : Bool} {m : Int} {d : Nat} (h : signN b two = some (m, d)) : 1 ≤ m ∧ m ≤ 24 ∧ (d = 1 ∨ (d = 2 ∧ two = true)) := by
  unfold signN at h
  split at h
  · cases two
    · simp only [Bool.false_eq_true, if_false, Option.some.injEq, Prod.mk.injEq] at h
      obtain ⟨rfl, rfl⟩ := h
      refine ⟨?_, ?_, .inl rfl⟩ <;> (repeat' split) <;> decide
    · simp only [if_true, Option.some.injEq, Prod.mk.injEq] at h
      obtain ⟨rfl, rfl⟩ := h
      refine ⟨?_, ?_, .inr ⟨rfl, rfl⟩⟩ <;> (repeat' split) <;> decide
  · split at h
    · simp only [Option.some.injEq, Prod.mk.injEq] at h; omega
    · split at h
      · simp only [Option.some.injEq, Prod.mk.injEq] at h; omega
      · split at h
        · rename_i hm
          have := List.idxOf_lt_length_of_mem hm
          have hl : signs.length = 16 := rfl
          simp only [Option.some.injEq, Prod.mk.injEq] at h
          omega
        · cases h
theorem signN_two {b : Int} {m : Int} (h : signN b true = some (m, 1)) : signN b false = some (m, 1) := by
  unfold signN at h ⊢
  by_cases h1 : b = 60 ∨ b = 62 ∨ b = 58
  · rw [if_pos h1] at h; simp at h
  · rw [if_neg h1] at h ⊢; exact h

theorem Win.sign (W : Win S T p q n) {k : Nat} (hk : k < n) {U V : List (List UInt8)}
    (hl : letterB (S.getD (p + k) 0) = false) (hd : digitB (S.getD (p + k) 0) = false) (hq : S.getD (p + k) 0 ≠ 34) (h0 : (stand S (p + k) U).read.err = 0) (hend : (stand S (p + k) U).read.at' ≤ p + n) : Both S T p q n k U V := by
  have hsp := W.sp
  have htq := W.tq
  have hb := W.eq k hk
  rw [read_sign (by omega) hl hd hq, sign_read] at h0 hend
  cases hs : signN (S.getD (p + k) 0) (decide (S.getD (p + k + 1) 0 = 61)) with
  | none => rw [hs] at h0; cases h0
  | some md =>
    obtain ⟨m, d⟩ := md
    rw [hs] at hend
    simp only at hend
    obtain ⟨b1, b2, b3⟩ := signN_bd hs
    have r1 : (stand S (p + k) U).read = ⟨S, p + (k + d), ⟨m, (p + k : Nat), 0, 0, []⟩, U, 0, 0⟩ := by
      rw [read_sign (by omega) hl hd hq, sign_read, hs, ← Nat.add_assoc]
    have hT : signN (T.getD (q + k) 0) (decide (T.getD (q + k + 1) 0 = 61)) = some (m, d) := by
      rw [← hb]
      by_cases hlt : k + 1 < n
      · have := W.eq (k + 1) hlt
        rw [← Nat.add_assoc, ← Nat.add_assoc] at this
        rw [← this]; exact hs
      · have hn : k + 1 = n := by omega
        have hd1 : d = 1 := by omega
        subst hd1
        have hf : decide (T.getD (q + k + 1) 0 = 61) = false := by
          rw [Nat.add_assoc, hn]
          rcases W.last with h | h <;> rw [h] <;> rfl
        rw [hf]
        cases hc : decide (S.getD (p + k + 1) 0 = 61) with
        | false => rw [hc] at hs; exact hs
        | true => rw [hc] at hs; exact signN_two hs
    have r2 : (stand T (q + k) V).read = ⟨T, q + (k + d), ⟨m, (q + k : Nat), 0, 0, []⟩, V, 0, 0⟩ := by
      rw [read_sign (by omega) (by rw [← hb]; exact hl) (by rw [← hb]; exact hd) (by rw [← hb]; exact hq), sign_read, hT, ← Nat.add_assoc]
    exact ⟨k + d, _, _, _, _, by omega, by omega, r1, r2, rfl, rfl, rfl, rfl, rfl, by simp only; omega, .inl ⟨by simp only; omega, rfl, rfl, rfl, rfl⟩⟩

theorem Win.read (W : Win S T p q n) {k : Nat} (hk : k < n) {U V : List (List UInt8)} (hU : Kw U) (hV : Kw V) {B : Nat} (hroom : ∀ nm, (nm ∈ U ∨ U.length < 700) → (ins U nm).length ≤ B → nm ∈ V ∨ V.length < 700)
    (h0 : (stand S (p + k) U).read.err = 0) (hend : (stand S (p + k) U).read.at' ≤ p + n) (hB : (stand S (p + k) U).read.names.length ≤ B) : Both S T p q n k U V := by
  cases hl : letterB (S.getD (p + k) 0) with
  | true => exact W.name hk hU hV hroom hl h0 hend hB
  | false =>
    cases hd : digitB (S.getD (p + k) 0) with
    | true => exact W.number hk hl hd h0 hend
    | false =>
      by_cases hq : S.getD (p + k) 0 = 34
      · exact W.text hk hq h0 hend
      · exact W.sign hk hl hd hq h0 hend

end Go.Proofs.Ytdgiijidgjagbaa
