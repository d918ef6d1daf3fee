/- Several texts in one: KeyPlain, KeyWalks. -/
import Derived.Test.YtfnibpkojhgflaaRows
import Derived.Test.YtfnibpkojhgflaaLibA
namespace Go.Proofs.Ytfnibpkojhgflaa

section
namespace Key

/-- two numbers that differ by a multiple of 2^32 have one remainder. -/
theorem modeq {a b : Int} (t : Int) (h : a = b + 4294967296 * t) : a % 4294967296 = b % 4294967296 := by
  subst h; omega

def step (k b : Int) : Int := (k * 16777619 + b + 1) % 4294967296
def on (k : Int) (l : List Int) : Int := l.foldl step k
def start : Int := 2166136261
def of (l : List Int) : Int := on start l

theorem step_lo (k b : Int) : 0 ≤ step k b := by unfold step; omega
theorem step_hi (k b : Int) : step k b < 4294967296 := by unfold step; omega

theorem on_nil (k : Int) : on k [] = k := rfl
theorem on_cons (k b : Int) (l : List Int) : on k (b :: l) = on (step k b) l := rfl
theorem on_append (k : Int) (l m : List Int) : on k (l ++ m) = on (on k l) m := by
  unfold on; rw [List.foldl_append]
theorem on_snoc (k b : Int) (l : List Int) : on k (l ++ [b]) = step (on k l) b := by
  rw [on_append]; rfl

theorem on_bd (l : List Int) : ∀ k : Int, 0 ≤ k → k < 4294967296 → 0 ≤ on k l ∧ on k l < 4294967296 := by
  induction l with
  | nil => intro k h0 h1; exact ⟨h0, h1⟩
  | cons b l ih => intro k _ _; rw [on_cons]; exact ih _ (step_lo _ _) (step_hi _ _)
theorem of_bd (l : List Int) : 0 ≤ of l ∧ of l < 4294967296 := on_bd l _ (by unfold start; omega) (by unfold start; omega)

/-- the factor is odd: a step can be taken back. -/
theorem step_inj {k l b : Int} (hk0 : 0 ≤ k) (hk1 : k < 4294967296) (hl0 : 0 ≤ l) (hl1 : l < 4294967296) (h : step k b = step l b) : k = l := by
  unfold step at h
  have h2 := Int.emod_eq_emod_iff_emod_sub_eq_zero.1 h
  rw [show k * 16777619 + b + 1 - (l * 16777619 + b + 1) = (k - l) * 16777619 from by grind] at h2
  obtain ⟨t, ht⟩ := Int.dvd_of_emod_eq_zero h2
  obtain ⟨d, hd⟩ : ∃ d, d = k - l := ⟨_, rfl⟩
  rw [← hd] at ht
  have h4 : d = 4294967296 * (t * 899433627 - d * 3513497) := by
    have e1 : d * 16777619 * 899433627 = 4294967296 * t * 899433627 := by rw [ht]
    grind
  clear ht h2 h
  obtain ⟨u, hu⟩ : ∃ u, u = t * 899433627 - d * 3513497 := ⟨_, rfl⟩
  rw [← hu] at h4
  omega
theorem step_byte {k b c : Int} (hb0 : 0 ≤ b) (hb1 : b < 256) (hc0 : 0 ≤ c) (hc1 : c < 256) (h : step k b = step k c) : b = c := by
  unfold step at h; omega
theorem on_inj (m : List Int) : ∀ {k l : Int}, 0 ≤ k → k < 4294967296 → 0 ≤ l → l < 4294967296 → on k m = on l m → k = l := by
  induction m with
  | nil => intro k l _ _ _ _ h; exact h
  | cons b m ih =>
    intro k l hk0 hk1 hl0 hl1 h
    rw [on_cons, on_cons] at h
    exact step_inj hk0 hk1 hl0 hl1 (ih (step_lo _ _) (step_hi _ _) (step_lo _ _) (step_hi _ _) h)

/-- the sum of powers, from the last byte on. -/
def pow : Nat → Int
  | 0 => 1
  | n + 1 => pow n * 16777619 % 4294967296
def sum : List Int → Int
  | [] => 0
  | b :: l => (sum l + (b + 1) * pow l.length) % 4294967296
theorem pow_bd (n : Nat) : 0 ≤ pow n ∧ pow n < 4294967296 := by
  cases n with
  | zero => unfold pow; omega
  | succ n => unfold pow; omega
theorem sum_bd (l : List Int) : 0 ≤ sum l ∧ sum l < 4294967296 := by
  cases l with
  | nil => unfold sum; omega
  | cons b l => unfold sum; omega

theorem emod_form (a : Int) : ∃ q, a % 4294967296 = a + 4294967296 * q := ⟨-(a / 4294967296), by omega⟩

theorem on_sum (l : List Int) : ∀ k : Int, 0 ≤ k → k < 4294967296 → on k l = (sum l + k * pow l.length) % 4294967296 := by
  induction l with
  | nil => intro k h0 h1; rw [on_nil]; simp only [sum, pow, List.length_nil]; omega
  | cons b l ih =>
    intro k h0 h1
    rw [on_cons, ih _ (step_lo _ _) (step_hi _ _)]
    simp only [sum, pow, List.length_cons]
    unfold step
    obtain ⟨q1, e1⟩ := emod_form (k * 16777619 + b + 1)
    obtain ⟨q2, e2⟩ := emod_form (sum l + (b + 1) * pow l.length)
    obtain ⟨q3, e3⟩ := emod_form (pow l.length * 16777619)
    rw [e1, e2, e3]
    refine modeq (q1 * pow l.length - q2 - k * q3) ?_
    grind

end Key
end

section
open Go.RowKit

theorem start_any (w : World) : Calls Try.prog 67 #[] w fun e w' => e = .returned (.int .u32 2166136261) ∧ w = w' := by
  go_enter Try.func67, Try.ntmps67
  go_wp2
  go_ret
  exact ⟨rfl, rfl⟩

theorem step_any (k b : Int) (w : World) (hb0 : 0 ≤ b) (hb1 : b < 256) :
    Calls Try.prog 77 #[.int .u32 k, .int .u8 b] w fun e w' => e = .returned (.int .u32 (Key.step k b)) ∧ w = w' := by
  go_enter Try.func77, Try.ntmps77
  go_wp2
  go_ret
  exact ⟨ret_int (by unfold Key.step; omega), rfl⟩

theorem clo_any (k c : Int) (a : Addr) (w : World) (hc0 : 0 ≤ c) (hc1 : c < 256) (hk : w.cell? a = some (.int .u32 k)) (hf : w.frozen? a = false) :
    Calls Try.prog 76 #[.int .u8 c, .pointer (some a)] w fun e w' => e = .returned (.tuple #[]) ∧ w.setCell a (.int .u32 (Key.step k c)) = w' := by
  go_enter Try.func76, Try.ntmps76
  go_wp2_with (go_at_call 77; refine (step_any _ _ _ hc0 hc1).mono ?_; rintro e w' ⟨rfl, rfl⟩)
  go_end0
  exact ⟨rfl, rfl⟩

theorem take_on (k : Int) (l : List Int) (i : Nat) (h : i < l.length) : Key.on k (l.take (i + 1)) = Key.step (Key.on k (l.take i)) (l.getD i 0) := by
  rw [List.take_succ_eq_append_getElem h, Key.on_snoc, List.getD_eq_getElem?_getD, List.getElem?_eq_getElem h]; rfl

set_option maxHeartbeats 400000 in
theorem on_any (k : Int) (a : Option Addr) (l : List Int) (cap : Nat) (w : World) (hr : RdI .u8 w a cap l) :
    Calls Try.prog 68 #[.int .u32 k, .slice a l.length cap] w fun e w' => e = .returned (.int .u32 (Key.on k l)) ∧ Below w.heap.size w w' := by
  have hlen := hr.len
  obtain ⟨b, o, hat, hcell⟩ := hr.cells
  have HB := Lib.hid hr.u8; clear hr
  have HAt := Lib.hid hat; clear hat
  have HC := Lib.hid hcell; clear hcell
  go_enter Try.func68, Try.ntmps68
  go_wp2
  go_loopw [11] (fun v wr => ∃ i : Nat, i ≤ l.length ∧ v = .int .i64 i ∧ wr = w.alloc (.cells #[.int .u32 (Key.on k (l.take i))] 39))
    (fun v _ => l.length - (intOf v).toNat)
  case atStart => exact ⟨0, Nat.zero_le _, rfl, rfl⟩
  case round =>
    obtain ⟨i, hi, rfl, rfl⟩ := hrel
    by_cases hlt : i < l.length
    · obtain ⟨rfl, hb⟩ := HAt.out (by omega)
      have hx := HB.out i hlt
      have hc : (w.alloc (.cells #[.int .u32 (Key.on k (l.take i))] 39)).cell? ⟨b, o + i, none⟩ = some (.int .u8 (l.getD i 0)) :=
        (((Below.refl _ w).alloc (Nat.le_refl _) _).cell (p := ⟨b, o + i, none⟩) hb).trans (HC.out i hlt)
      have hs := Lib.hid (take_on k l i hlt)
      obtain ⟨x, hxe⟩ : ∃ x, x = l.getD i 0 := ⟨_, rfl⟩
      rw [← hxe] at hc hx hs
      clear hxe
      go_wp2_with fail
      refine (clo_any (Key.on k (l.take i)) x _ _ hx.1 hx.2 (by simp [go_sem]) (by simp [go_sem])).mono ?_
      rintro e w' ⟨rfl, rfl⟩
      go_wp2
      go_roundw
      case rel => exact ⟨i + 1, by omega, by go_num, by rw [hs.out]⟩
      case measure => simp [intOf]; omega
    · go_wp2
      go_ret
      exact ⟨ret_int (by rw [List.take_of_length_le (by omega)]), (Below.refl _ w).alloc (Nat.le_refl _) _⟩

theorem take_flat (k : Int) (ls : List (List Int)) (i : Nat) (h : i < ls.length) : Key.on k (ls.take (i + 1)).flatten = Key.on (Key.on k (ls.take i).flatten) (ls.getD i []) := by
  rw [List.take_succ_eq_append_getElem h, List.flatten_append, Key.on_append, List.getD_eq_getElem?_getD, List.getElem?_eq_getElem h]; simp

set_option maxHeartbeats 400000 in
theorem of_any (a : Option Addr) (ls : List (List Int)) (cap : Nat) (w : World) (hr : RdII .u8 w a cap ls) :
    Calls Try.prog 35 #[.slice a ls.length cap] w fun e w' => e = .returned (.int .u32 (Key.of ls.flatten)) ∧ Below w.heap.size w w' := by
  have hlen := hr.len
  obtain ⟨b, o, hat, hcell⟩ := hr.at'
  clear hr
  have HAt := Lib.hid hat; clear hat
  have HC := Lib.hid hcell; clear hcell
  go_enter Try.func35, Try.ntmps35
  go_wp2_with (go_at_call 67; refine (start_any _).mono ?_; rintro e w' ⟨rfl, rfl⟩)
  go_loopw [3, 9] (fun k v wr => ∃ i : Nat, i ≤ ls.length ∧ v = .int .i64 i ∧ k = .int .u32 (Key.on Key.start (ls.take i).flatten) ∧ Below w.heap.size w wr)
    (fun _ v _ => ls.length - (intOf v).toNat)
  case atStart => exact ⟨0, Nat.zero_le _, rfl, rfl, Below.refl _ _⟩
  case round =>
    obtain ⟨i, hi, rfl, rfl, hbel⟩ := hrel
    by_cases hlt : i < ls.length
    · obtain ⟨rfl, hb⟩ := HAt.out (by omega)
      obtain ⟨x, c, hc0, hrx⟩ := HC.out i hlt
      have hc : wr.cell? ⟨b, o + i, none⟩ = some (.slice x (ls.getD i []).length c) := (hbel.cell (p := ⟨b, o + i, none⟩) hb).trans hc0
      have hs := Lib.hid (take_flat Key.start ls i hlt)
      have hrx' := Lib.hid (hrx.below hbel (Nat.le_refl _))
      clear hc0 hrx
      obtain ⟨m, hm⟩ : ∃ m, m = ls.getD i [] := ⟨_, rfl⟩
      rw [← hm] at hc hs hrx'
      clear hm
      go_wp2_with fail
      refine (on_any _ _ _ _ _ hrx'.out).mono ?_
      rintro e w' ⟨rfl, hb1⟩
      go_wp2
      go_roundw
      case rel => exact ⟨i + 1, by omega, by go_num, by rw [hs.out], hbel.trans (hb1.mono hbel.size)⟩
      case measure => simp [intOf]; omega
    · go_wp2
      go_ret
      exact ⟨ret_int (by rw [List.take_of_length_le (by omega)]; rfl), by assumption⟩
end

end Go.Proofs.Ytfnibpkojhgflaa
