/- Layer 11's scanner, plainly: where blanks, comments, names, numbers and strings end, what the next symbol is, which number a name has. No program in sight. -/
import Derived.Test.YtdgiijidgjagbaaRd
namespace Go.Proofs.Ytdgiijidgjagbaa
set_option linter.unusedVariables false
set_option linter.unusedSimpArgs false

def letterB (b : Int) : Bool := (decide (65 ≤ b) && decide (b ≤ 90)) || (decide (97 ≤ b) && decide (b ≤ 122))
def digitB (b : Int) : Bool := decide (48 ≤ b) && decide (b ≤ 57)
def hexB (b : Int) : Bool := digitB b || (decide (65 ≤ b) && decide (b ≤ 70))
def ldB (b : Int) : Bool := letterB b || digitB b
def strB (b : Int) : Bool := decide (32 ≤ b) && (decide (b < 127) && !decide (b = 34))

/-! ### runs -/
def runF (p : Int → Bool) (s : List Int) : Nat → Nat → Nat
  | 0, i => i
  | n + 1, i => if p (s.getD i 0) then runF p s n (i + 1) else i
def run (p : Int → Bool) (s : List Int) (i : Nat) : Nat := runF p s (s.length - i) i

theorem run_in {p : Int → Bool} {s : List Int} {i : Nat} (h : i < s.length) : run p s i = if p (s.getD i 0) then run p s (i + 1) else i := by
  unfold run
  rw [show s.length - i = (s.length - (i + 1)) + 1 by omega]
  rfl
theorem run_end {p : Int → Bool} {s : List Int} {i : Nat} (h : s.length ≤ i) : run p s i = i := by
  unfold run
  rw [show s.length - i = 0 by omega]
  rfl
theorem getD_end {s : List Int} {i : Nat} (h : s.length ≤ i) : s.getD i 0 = 0 := by simp [List.getD_eq_getElem?_getD, h]
theorem run_yes {p : Int → Bool} {s : List Int} {i : Nat} (h0 : p 0 = false) (h : p (s.getD i 0) = true) : run p s i = run p s (i + 1) ∧ i < s.length := by
  have hl : i < s.length := by
    rcases Nat.lt_or_ge i s.length with h' | h'
    · exact h'
    · rw [getD_end h', h0] at h; cases h
  exact ⟨by rw [run_in hl, h]; rfl, hl⟩
theorem run_no {p : Int → Bool} {s : List Int} {i : Nat} (h : p (s.getD i 0) = false) : run p s i = i := by
  rcases Nat.lt_or_ge i s.length with h' | h'
  · rw [run_in h', h]; rfl
  · exact run_end h'
theorem run_ge (p : Int → Bool) (s : List Int) : ∀ (n i : Nat), i ≤ runF p s n i ∧ runF p s n i ≤ i + n
  | 0, i => ⟨Nat.le_refl _, Nat.le_refl _⟩
  | n + 1, i => by
    unfold runF
    split
    · have := run_ge p s n (i + 1); omega
    · omega
theorem run_le {p : Int → Bool} {s : List Int} {i : Nat} (h : i ≤ s.length) : i ≤ run p s i ∧ run p s i ≤ s.length := by
  have := run_ge p s (s.length - i) i
  unfold run; omega
theorem runF_all (p : Int → Bool) (s : List Int) : ∀ (n i j : Nat), i ≤ j → j < runF p s n i → p (s.getD j 0) = true
  | 0, i, j, h1, h2 => by unfold runF at h2; omega
  | n + 1, i, j, h1, h2 => by
    unfold runF at h2
    split at h2
    · rename_i hp
      by_cases hij : i = j
      · subst hij; exact hp
      · exact runF_all p s n (i + 1) j (by omega) h2
    · omega
theorem run_all {p : Int → Bool} {s : List Int} {i j : Nat} (h1 : i ≤ j) (h2 : j < run p s i) : p (s.getD j 0) = true := runF_all p s _ i j h1 h2
theorem runF_stop (p : Int → Bool) (h0 : p 0 = false) (s : List Int) : ∀ (n i : Nat), s.length ≤ i + n → p (s.getD (runF p s n i) 0) = false
  | 0, i, h => by unfold runF; rw [getD_end (by omega), h0]
  | n + 1, i, h => by
    unfold runF
    split
    · exact runF_stop p h0 s n (i + 1) (by omega)
    · rename_i hp; simpa using hp
theorem run_stop {p : Int → Bool} (h0 : p 0 = false) {s : List Int} {i : Nat} : p (s.getD (run p s i) 0) = false := by
  unfold run; exact runF_stop p h0 s _ i (by omega)

/-! ### comments and blanks -/
def opens (s : List Int) (i : Nat) : Bool := decide (s.getD i 0 = 40) && decide (s.getD (i + 1) 0 = 42)
def closes (s : List Int) (i : Nat) : Bool := decide (s.getD i 0 = 42) && decide (s.getD (i + 1) 0 = 41)
theorem opens_lt {s : List Int} {i : Nat} (h : opens s i = true) : i + 1 < s.length := by
  unfold opens at h
  simp only [Bool.and_eq_true, decide_eq_true_eq] at h
  rcases Nat.lt_or_ge (i + 1) s.length with h' | h'
  · exact h'
  · rw [getD_end h'] at h; omega
theorem closes_lt {s : List Int} {i : Nat} (h : closes s i = true) : i + 1 < s.length := by
  unfold closes at h
  simp only [Bool.and_eq_true, decide_eq_true_eq] at h
  rcases Nat.lt_or_ge (i + 1) s.length with h' | h'
  · exact h'
  · rw [getD_end h'] at h; omega

def comF (s : List Int) : Nat → Nat → Nat → Option Nat
  | _, 0, i => some i
  | 0, _ + 1, _ => none
  | n + 1, d + 1, i => if i < s.length then (if opens s i then comF s n (d + 2) (i + 2) else if closes s i then comF s n d (i + 2) else comF s n (d + 1) (i + 1)) else none
theorem comF_fuel (s : List Int) : ∀ (n m d i : Nat), s.length - i ≤ n → s.length - i ≤ m → comF s n d i = comF s m d i
  | n, m, 0, i, _, _ => by cases n <;> cases m <;> rfl
  | 0, 0, d + 1, i, _, _ => rfl
  | 0, m + 1, d + 1, i, h, _ => by unfold comF; rw [if_neg (by omega)]
  | n + 1, 0, d + 1, i, _, h => by unfold comF; rw [if_neg (by omega)]
  | n + 1, m + 1, d + 1, i, h1, h2 => by
    unfold comF
    rw [comF_fuel s n m (d + 2) (i + 2) (by omega) (by omega), comF_fuel s n m d (i + 2) (by omega) (by omega), comF_fuel s n m (d + 1) (i + 1) (by omega) (by omega)]
/-- where a comment ends, so many deep. -/
def com (s : List Int) (d i : Nat) : Option Nat := comF s (s.length - i) d i
theorem com_zero (s : List Int) (i : Nat) : com s 0 i = some i := by unfold com; cases s.length - i <;> rfl
theorem com_end {s : List Int} {d i : Nat} (h : s.length ≤ i) : com s (d + 1) i = none := by
  unfold com; rw [show s.length - i = 0 by omega]; rfl
theorem com_in {s : List Int} {d i : Nat} (h : i < s.length) : com s (d + 1) i = if opens s i then com s (d + 2) (i + 2) else if closes s i then com s d (i + 2) else com s (d + 1) (i + 1) := by
  unfold com
  rw [show s.length - i = (s.length - (i + 1)) + 1 by omega, comF, if_pos h,
    comF_fuel s (s.length - (i + 1)) (s.length - (i + 2)) (d + 2) (i + 2) (by omega) (by omega), comF_fuel s (s.length - (i + 1)) (s.length - (i + 2)) d (i + 2) (by omega) (by omega)]
theorem comF_ge (s : List Int) : ∀ (n d i j : Nat), comF s n d i = some j → i ≤ j
  | n, 0, i, j, h => by cases n <;> (simp [comF] at h; omega)
  | 0, d + 1, i, j, h => by simp [comF] at h
  | n + 1, d + 1, i, j, h => by
    unfold comF at h
    split at h
    · split at h
      · have := comF_ge s n _ _ _ h; omega
      · split at h
        · have := comF_ge s n _ _ _ h; omega
        · have := comF_ge s n _ _ _ h; omega
    · cases h
theorem comF_le (s : List Int) : ∀ (n d i j : Nat), i ≤ s.length → comF s n d i = some j → j ≤ s.length
  | n, 0, i, j, hi, h => by cases n <;> (simp [comF] at h; omega)
  | 0, d + 1, i, j, _, h => by simp [comF] at h
  | n + 1, d + 1, i, j, hi, h => by
    unfold comF at h
    split at h
    · split at h
      · rename_i ho; have := opens_lt ho; exact comF_le s n _ _ _ (by omega) h
      · split at h
        · rename_i ho; have := closes_lt ho; exact comF_le s n _ _ _ (by omega) h
        · exact comF_le s n _ _ _ (by omega) h
    · cases h
theorem com_ge {s : List Int} {d i j : Nat} (h : com s d i = some j) : i ≤ j := comF_ge s _ _ _ _ h
theorem com_le {s : List Int} {d i j : Nat} (hi : i ≤ s.length) (h : com s d i = some j) : j ≤ s.length := comF_le s _ _ _ _ hi h

def blankF (s : List Int) : Nat → Nat → Bool × Nat
  | 0, i => (true, i)
  | n + 1, i => if i < s.length then (if s.getD i 0 ≤ 32 then blankF s n (i + 1) else if opens s i then (match com s 1 (i + 2) with | none => (false, i) | some j => blankF s n j) else (true, i)) else (true, i)
theorem blankF_fuel (s : List Int) : ∀ (n m i : Nat), s.length - i ≤ n → s.length - i ≤ m → blankF s n i = blankF s m i
  | 0, 0, i, _, _ => rfl
  | 0, m + 1, i, h, _ => by unfold blankF; rw [if_neg (by omega)]
  | n + 1, 0, i, _, h => by unfold blankF; rw [if_neg (by omega)]
  | n + 1, m + 1, i, h1, h2 => by
    unfold blankF
    rw [blankF_fuel s n m (i + 1) (by omega) (by omega)]
    split
    · split
      · rfl
      · split
        · cases hc : com s 1 (i + 2) with
          | none => rfl
          | some j => have := com_ge hc; exact blankF_fuel s n m j (by omega) (by omega)
        · rfl
    · rfl
/-- where blanks and comments end; or 'false', and where the comment begins that does not end. -/
def blank (s : List Int) (i : Nat) : Bool × Nat := blankF s (s.length - i) i
theorem blank_end {s : List Int} {i : Nat} (h : s.length ≤ i) : blank s i = (true, i) := by
  unfold blank; rw [show s.length - i = 0 by omega]; rfl
theorem blank_in {s : List Int} {i : Nat} (h : i < s.length) : blank s i = if s.getD i 0 ≤ 32 then blank s (i + 1) else if opens s i then (match com s 1 (i + 2) with | none => (false, i) | some j => blank s j) else (true, i) := by
  unfold blank
  rw [show s.length - i = (s.length - (i + 1)) + 1 by omega, blankF, if_pos h]
  split
  · rfl
  · split
    · cases hc : com s 1 (i + 2) with
      | none => rfl
      | some j => have := com_ge hc; exact blankF_fuel s _ _ j (by omega) (by omega)
    · rfl
theorem blankF_le (s : List Int) : ∀ (n i : Nat), i ≤ s.length → i ≤ (blankF s n i).2 ∧ (blankF s n i).2 ≤ s.length
  | 0, i, h => ⟨Nat.le_refl _, h⟩
  | n + 1, i, h => by
    unfold blankF
    split
    · split
      · have := blankF_le s n (i + 1) (by omega); omega
      · split
        · rename_i ho
          have := opens_lt ho
          cases hc : com s 1 (i + 2) with
          | none => exact ⟨Nat.le_refl _, h⟩
          | some j =>
            have h1 := com_ge hc
            have h2 := com_le (by omega) hc
            have := blankF_le s n j h2
            simp only; omega
        · exact ⟨Nat.le_refl _, h⟩
    · exact ⟨Nat.le_refl _, h⟩
theorem blank_le {s : List Int} {i : Nat} (h : i ≤ s.length) : i ≤ (blank s i).2 ∧ (blank s i).2 ≤ s.length := blankF_le s _ i h

/-! ### numbers -/
def digV (d : Int) : Int := if digitB d then d - 48 else d - 65 + 10
def hexF (n d : Int) : Int := (16 * n + digV d) % 4294967296
def hexN (l : List Int) : Int := l.foldl hexF 0
def sigF (k : Nat) (d : Int) : Nat := if 0 < k ∨ 0 < digV d then k + 1 else k
def sig (l : List Int) : Nat := l.foldl sigF 0
def decF (n d : Int) : Int := min (n * 10 + (d - 48)) 4294967296
def decN (l : List Int) : Int := l.foldl decF 0
def i32 (n : Int) : Int := if n < 2147483648 then n else n - 4294967296

/-! ### the scanner -/
structure Sym where
  sym : Int
  pos : Int
  val : Int
  id : Int
  text : List UInt8
def Sym.at (p : Int) : Sym := ⟨0, p, 0, 0, []⟩
structure Sc where
  src : List Int
  at' : Nat
  sym : Sym
  names : List (List UInt8)
  err : Int
  pos : Int

def Sc.markAt (s : Sc) (code pos : Int) : Sc := if s.err ≠ 0 ∨ code < 1 then s else { s with err := code, pos := pos, sym := Sym.at pos }
def Sc.mark (s : Sc) (code : Int) : Sc := s.markAt code s.sym.pos

def Sc.intern (s : Sc) (n : List UInt8) : Int × Sc :=
  if n ∈ s.names then (s.names.idxOf n, s)
  else if 700 ≤ s.names.length then (-1, s.mark 62)
  else (s.names.length, { s with names := s.names ++ [n] })

/-- numbers as bytes. -/
def byt (l : List Int) : List UInt8 := l.map fun x => UInt8.ofNat x.toNat
/-- src[i:j]. -/
def cut (s : List Int) (i j : Nat) : List Int := (s.drop i).take (j - i)

def Sc.name (s : Sc) : Sc :=
  let k := run ldB s.src s.at'
  let s1 := { s with at' := k }
  if 15 < k - s.at' then s1.mark 3
  else
    let r := s1.intern (byt (cut s.src s.at' k))
    if r.1 < 0 then r.2
    else if r.1 < 29 then { r.2 with sym := ⟨30 + r.1, s.at', 0, 0, []⟩ }
    else { r.2 with sym := { r.2.sym with sym := 25, id := r.1 } }

def Sc.number (s : Sc) : Sc :=
  let k := run hexB s.src s.at'
  let l := cut s.src s.at' k
  let b := s.src.getD k 0
  if b = 72 ∨ b = 88 then
    let s1 := { s with at' := k + 1 }
    if 8 < sig l ∨ (b = 88 ∧ 255 < hexN l) then s1.mark 2
    else { s1 with sym := { s.sym with sym := if b = 88 then 27 else 26, val := i32 (hexN l) } }
  else
    let s1 := { s with at' := k }
    if l.all digitB = false ∨ 2147483647 < decN l then s1.mark 2
    else { s1 with sym := { s.sym with sym := 26, val := decN l } }

def Sc.text (s : Sc) : Sc :=
  let k := run strB s.src (s.at' + 1)
  let s1 := { s with at' := k }
  if s.src.getD k 0 ≠ 34 ∨ 63 < k - (s.at' + 1) then s1.mark 4
  else { s1 with at' := k + 1, sym := { s.sym with sym := 28, text := byt (cut s.src (s.at' + 1) k), val := if k - (s.at' + 1) = 1 then s.src.getD (s.at' + 1) 0 else s.sym.val } }

def signs : List Int := [43, 45, 42, 47, 46, 94, 38, 126, 40, 41, 91, 93, 123, 125, 44, 59]
def Sc.sign (s : Sc) : Sc :=
  let b := s.src.getD s.at' 0
  let two := decide (s.src.getD (s.at' + 1) 0 = 61)
  let s1 := { s with at' := s.at' + 1 }
  if b = 60 ∨ b = 62 ∨ b = 58 then
    let n := if b = 60 then 3 else if b = 62 then 5 else 23
    if two then { s1 with at' := s.at' + 2, sym := { s.sym with sym := n + 1 } } else { s1 with sym := { s.sym with sym := n } }
  else if b = 61 then { s1 with sym := { s.sym with sym := 1 } }
  else if b = 35 then { s1 with sym := { s.sym with sym := 2 } }
  else if b ∈ signs then { s1 with sym := { s.sym with sym := 7 + signs.idxOf b } }
  else s1.mark 1

def Sc.get (s : Sc) : Sc :=
  if s.err ≠ 0 then s
  else
    let r := blank s.src s.at'
    if r.1 = false then ({ s with at' := s.src.length }).markAt 5 r.2
    else
      let s1 := { s with at' := r.2, sym := Sym.at r.2 }
      let b := s.src.getD r.2 0
      if s.src.length ≤ r.2 then s1
      else if letterB b then s1.name
      else if digitB b then s1.number
      else if b = 34 then s1.text
      else s1.sign

end Go.Proofs.Ytdgiijidgjagbaa
