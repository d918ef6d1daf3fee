/- Plain facts on fingerprints: numbers modulo 2^32, a byte at a time; sums of powers. No program in sight. -/
namespace Go.Proofs.Ytfnibpkojhgflaa
namespace Key

/-- two numbers that differ by a multiple of 2^32 have one remainder. -/
theorem modeq {a b : Int} (t : Int) (h : a = b + 4294967296 * t) : a % 4294967296 = b % 4294967296 := by
  subst h; omega

def step (k b : Int) : Int := (k * 16777619 + b + 1) % 4294967296
def on (k : Int) (l : List Int) : Int := l.foldl step k
def start : Int := 2166136261
def of (l : List Int) : Int := on start l

theorem step_lo (k b : Int) : 0 ≤ step k b := by unfold step; omega
theorem step_hi (k b : Int) : step k b < 4294967296 := by unfold step; omega

theorem on_nil (k : Int) : on k [] = k := rfl
theorem on_cons (k b : Int) (l : List Int) : on k (b :: l) = on (step k b) l := rfl
theorem on_append (k : Int) (l m : List Int) : on k (l ++ m) = on (on k l) m := by
  unfold on; rw [List.foldl_append]
theorem on_snoc (k b : Int) (l : List Int) : on k (l ++ [b]) = step (on k l) b := by
  rw [on_append]; rfl

theorem on_bd (l : List Int) : ∀ k : Int, 0 ≤ k → k < 4294967296 → 0 ≤ on k l ∧ on k l < 4294967296 := by
  induction l with
  | nil => intro k h0 h1; exact ⟨h0, h1⟩
  | cons b l ih => intro k _ _; rw [on_cons]; exact ih _ (step_lo _ _) (step_hi _ _)
theorem of_bd (l : List Int) : 0 ≤ of l ∧ of l < 4294967296 := on_bd l _ (by unfold start; omega) (by unfold start; omega)

/-- the factor is odd: a step can be taken back. -/
theorem step_inj {k l b : Int} (hk0 : 0 ≤ k) (hk1 : k < 4294967296) (hl0 : 0 ≤ l) (hl1 : l < 4294967296) (h : step k b = step l b) : k = l := by
  unfold step at h
  have h2 := Int.emod_eq_emod_iff_emod_sub_eq_zero.1 h
  rw [show k * 16777619 + b + 1 - (l * 16777619 + b + 1) = (k - l) * 16777619 from by grind] at h2
  obtain ⟨t, ht⟩ := Int.dvd_of_emod_eq_zero h2
  obtain ⟨d, hd⟩ : ∃ d, d = k - l := ⟨_, rfl⟩
  rw [← hd] at ht
  have h4 : d = 4294967296 * (t * 899433627 - d * 3513497) := by
    have e1 : d * 16777619 * 899433627 = 4294967296 * t * 899433627 := by rw [ht]
    grind
  clear ht h2 h
  obtain ⟨u, hu⟩ : ∃ u, u = t * 899433627 - d * 3513497 := ⟨_, rfl⟩
  rw [← hu] at h4
  omega
theorem step_byte {k b c : Int} (hb0 : 0 ≤ b) (hb1 : b < 256) (hc0 : 0 ≤ c) (hc1 : c < 256) (h : step k b = step k c) : b = c := by
  unfold step at h; omega
theorem on_inj (m : List Int) : ∀ {k l : Int}, 0 ≤ k → k < 4294967296 → 0 ≤ l → l < 4294967296 → on k m = on l m → k = l := by
  induction m with
  | nil => intro k l _ _ _ _ h; exact h
  | cons b m ih =>
    intro k l hk0 hk1 hl0 hl1 h
    rw [on_cons, on_cons] at h
    exact step_inj hk0 hk1 hl0 hl1 (ih (step_lo _ _) (step_hi _ _) (step_lo _ _) (step_hi _ _) h)

/-- the sum of powers, from the last byte on. -/
def pow : Nat → Int
  | 0 => 1
  | n + 1 => pow n * 16777619 % 4294967296
def sum : List Int → Int
  | [] => 0
  | b :: l => (sum l + (b + 1) * pow l.length) % 4294967296
theorem pow_bd (n : Nat) : 0 ≤ pow n ∧ pow n < 4294967296 := by
  cases n with
  | zero => unfold pow; omega
  | succ n => unfold pow; omega
theorem sum_bd (l : List Int) : 0 ≤ sum l ∧ sum l < 4294967296 := by
  cases l with
  | nil => unfold sum; omega
  | cons b l => unfold sum; omega

theorem emod_form (a : Int) : ∃ q, a % 4294967296 = a + 4294967296 * q := ⟨-(a / 4294967296), by omega⟩

theorem on_sum (l : List Int) : ∀ k : Int, 0 ≤ k → k < 4294967296 → on k l = (sum l + k * pow l.length) % 4294967296 := by
  induction l with
  | nil => intro k h0 h1; rw [on_nil]; simp only [sum, pow, List.length_nil]; omega
  | cons b l ih =>
    intro k h0 h1
    rw [on_cons, ih _ (step_lo _ _) (step_hi _ _)]
    simp only [sum, pow, List.length_cons]
    unfold step
    obtain ⟨q1, e1⟩ := emod_form (k * 16777619 + b + 1)
    obtain ⟨q2, e2⟩ := emod_form (sum l + (b + 1) * pow l.length)
    obtain ⟨q3, e3⟩ := emod_form (pow l.length * 16777619)
    rw [e1, e2, e3]
    refine modeq (q1 * pow l.length - q2 - k * q3) ?_
    grind

end Key
end Go.Proofs.Ytfnibpkojhgflaa
