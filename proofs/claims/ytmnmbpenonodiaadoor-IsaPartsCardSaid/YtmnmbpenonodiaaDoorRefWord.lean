/- Contracts of the reference of layer 3: field, Word. -/
import Derived.Test.YtmnmbpenonodiaaDoorRefIsa
import Derived.Test.YtmnmbpenonodiaaDoorWordArith
import Derived.Test.YtmnmbpenonodiaaDoorRiscCells
import Derived.Deep.QuietTactic
namespace Go.Proofs.YtmnmbpenonodiaaDoor
set_option linter.unusedVariables false
set_option linter.unusedSimpArgs false
open Go.RowKit

theorem quiet_same {P : Program} {f : FuncId} {args : Array Value} {w : World} {n : Nat} {v : Value}
    (h : Calls P f args (w.drewN n) fun e w' => e = .returned v ∧ w.drewN n = w') : Calls P f args (w.drewN n) fun e w'' => e = .returned v ∧ ∃ m, w'' = w.drewN m :=
  Calls.quiet_of_same (h.mono fun _ _ ⟨a, b⟩ => ⟨a, b.symm⟩)

/-- a word's bits behind other ones. -/
@[irreducible] def fld (x n : Int) (k : Nat) : Int := x * 2 ^ k + n % 2 ^ k

theorem fld_bd {x n : Int} {k : Nat} {m : Nat} (hx : 0 ≤ x ∧ x < 2 ^ m) : 0 ≤ fld x n k ∧ fld x n k < 2 ^ (m + k) := by
  have hp : (0 : Int) < 2 ^ k := Int.pow_pos (by decide)
  have h1 := Int.emod_nonneg n (show (2 : Int) ^ k ≠ 0 by omega)
  have h2 := Int.emod_lt_of_pos n hp
  have h3 : 0 ≤ x * 2 ^ k := Int.mul_nonneg hx.1 (by omega)
  have h4 : (x + 1) * 2 ^ k ≤ 2 ^ m * 2 ^ k := Int.mul_le_mul_of_nonneg_right (by omega) (by omega)
  have h5 : (2 : Int) ^ (m + k) = 2 ^ m * 2 ^ k := by rw [Int.pow_add]
  have h6 : (x + 1) * 2 ^ k = x * 2 ^ k + 2 ^ k := by rw [Int.add_mul, Int.one_mul]
  unfold fld
  rw [h5]
  omega

theorem field_walk (x n : Int) (k : Nat) (w : World) (hx : 0 ≤ x ∧ x < 2147483648) (hn : -9223372036854775808 ≤ n ∧ n ≤ 9223372036854775807) (hk : k = 1 ∨ k = 2 ∨ k = 4 ∨ k = 8 ∨ k = 12 ∨ k = 16 ∨ k = 20 ∨ k = 24) :
    Calls Tryd.prog 41 #[.int .u64 x, .int .i64 n, .int .i64 k] w fun e w' => e = .returned (.int .u64 (fld x n k)) ∧ w = w' := by
  have hp : (0 : Int) < 2 ^ k := Int.pow_pos (by decide)
  have ht := tdiv_floor (x := n) hp
  have HT := Lib.hid (show (n.tmod (2 ^ k) < 0 → n.tmod (2 ^ k) + 2 ^ k = n % 2 ^ k) ∧ (0 ≤ n.tmod (2 ^ k) → n.tmod (2 ^ k) = n % 2 ^ k) from ⟨fun h => (ht.1 h).2, fun h => (ht.2 h).2⟩)
  clear ht hp
  rcases hk with rfl | rfl | rfl | rfl | rfl | rfl | rfl | rfl
  all_goals
    go_enter Tryd.func41, Tryd.ntmps41
    go_wp2
    all_goals
      go_ret
      refine ⟨ret_int ?_, rfl⟩
      have h1 := HT.out
      simp only [Nat.reducePow, Int.reducePow] at h1
      unfold fld
      simp only [IntKind.wrap_u64, wrap64, Int.reducePow]
      omega

def FB (x : Int) (m : Nat) : Prop := 0 ≤ x ∧ x < 2 ^ m
theorem FB.zero : FB 0 0 := ⟨by decide, by decide⟩
theorem FB.f {x n : Int} {m : Nat} (h : FB x m) (k : Nat) : FB (fld x n k) (m + k) := fld_bd h
theorem FB.lt {x : Int} {m : Nat} (h : FB x m) (hm : m ≤ 31) : 0 ≤ x ∧ x < 2147483648 := by
  have : (2 : Int) ^ m ≤ 2 ^ 31 := by exact_mod_cast Nat.pow_le_pow_right (by decide) hm
  unfold FB at h; omega

def b01 (f : Bool) : Int := if f then 1 else 0
theorem b01_bd (f : Bool) : -9223372036854775808 ≤ b01 f ∧ b01 f ≤ 9223372036854775807 := by cases f <;> decide
theorem one_walk' (f : Bool) (w : World) : Calls Tryd.prog 42 #[.bool f] w fun e w' => e = .returned (.int .i64 (b01 f)) ∧ w = w' := one_walk f w
theorem field_walk' {x n : Int} {m : Nat} (k : Nat) (w : World) (hx : FB x m) (hm : m ≤ 31) (hn : -9223372036854775808 ≤ n ∧ n ≤ 9223372036854775807) (hk : k = 1 ∨ k = 2 ∨ k = 4 ∨ k = 8 ∨ k = 12 ∨ k = 16 ∨ k = 20 ∨ k = 24) :
    Calls Tryd.prog 41 #[.int .u64 x, .int .i64 n, .int .i64 k] w fun e w' => e = .returned (.int .u64 (fld x n k)) ∧ w = w' := field_walk x n k w (hx.lt hm) hn hk

/-- the word of an instruction. -/
def wordR (i : Ins) : Int :=
  if i.form = 0 ∨ i.form = 1 then fld (fld (fld (fld (fld (fld (fld 0 i.form 2) (b01 i.u) 1) (b01 i.v) 1) i.a 4) i.b 4) i.op 4) (i.im + i.c) 16
  else if i.form = 2 ∨ i.form = 3 then fld (fld (fld (fld (fld (fld 0 2 2) (i.form - 2) 1) (b01 i.v) 1) i.a 4) i.b 4) i.off 20
  else if i.form = 4 then fld (fld (fld (fld (fld 0 3 2) 1 1) (b01 i.v) 1) i.cond 4) i.off 24
  else if i.form = 5 then fld (fld (fld (fld (fld 0 3 2) 0 1) (b01 i.v) 1) i.cond 4) i.c 24
  else fld (fld (fld (fld (fld (fld (fld 0 3 2) 0 1) 1 1) i.cond 4) 0 12) i.n 8) 12 4

/-- all numbers of an instruction are Go's ints. -/
structure Ins.Ok (i : Ins) : Prop where
  form : -9223372036854775808 ≤ i.form ∧ i.form ≤ 9223372036854775807
  a : -9223372036854775808 ≤ i.a ∧ i.a ≤ 9223372036854775807
  b : -9223372036854775808 ≤ i.b ∧ i.b ≤ 9223372036854775807
  c : -9223372036854775808 ≤ i.c ∧ i.c ≤ 9223372036854775807
  op : -9223372036854775808 ≤ i.op ∧ i.op ≤ 9223372036854775807
  im : -9223372036854775808 ≤ i.im ∧ i.im ≤ 9223372036854775807
  off : -9223372036854775808 ≤ i.off ∧ i.off ≤ 9223372036854775807
  cond : -9223372036854775808 ≤ i.cond ∧ i.cond ≤ 9223372036854775807
  n : -9223372036854775808 ≤ i.n ∧ i.n ≤ 9223372036854775807

theorem field_any (x n z : Int) {m : Nat} (w : World) (hx : FB x m) (hm : m ≤ 31) (hn : -9223372036854775808 ≤ n ∧ n ≤ 9223372036854775807) (hz : z = 1 ∨ z = 2 ∨ z = 4 ∨ z = 8 ∨ z = 12 ∨ z = 16 ∨ z = 20 ∨ z = 24) :
    Calls Tryd.prog 41 #[.int .u64 x, .int .i64 n, .int .i64 z] w fun e w' => e = .returned (.int .u64 (fld x n z.toNat)) ∧ w = w' := by
  have e : z = (z.toNat : Int) := by omega
  have h := field_walk x n z.toNat w (hx.lt hm) hn (by omega)
  rw [← e] at h
  exact h

theorem fb_mod {x : Int} (h : FB x 32) : x % 4294967296 = x := by
  unfold FB at h
  omega

theorem bd_sum {im c : Int} (him : 0 ≤ im ∧ im < 65536) (hc : 0 ≤ c ∧ c < 65536) : -9223372036854775808 ≤ im + c ∧ im + c ≤ 9223372036854775807 := by omega

set_option maxHeartbeats 4000000 in
theorem word_walk (i : Ins) (w : World) (ho : i.Ok) (him : 0 ≤ i.im ∧ i.im < 65536) (hc : 0 ≤ i.c ∧ i.c < 65536) (hf : 0 ≤ i.form ∧ i.form ≤ 6) :
    Calls Tryd.prog 30 #[i.val] w fun e w' => e = .returned (.int .u32 (wordR i)) ∧ Below w.heap.size w w' := by
  obtain ⟨form, u, v, a, b, c, op, im, off, cond, n⟩ := i
  have HU := Lib.hid (b01_bd u)
  have HV := Lib.hid (b01_bd v)
  obtain ⟨hform, ha, hb, hcc, hop, himm, hoff, hcond, hn⟩ := ho
  simp only at hform ha hb hcc hop himm hoff hcond hn him hc hf
  have hs := bd_sum him hc
  have hforms : form = 0 ∨ form = 1 ∨ form = 2 ∨ form = 3 ∨ form = 4 ∨ form = 5 ∨ form = 6 := by omega
  rcases hforms with rfl | rfl | rfl | rfl | rfl | rfl | rfl
  · go_enter Tryd.func30, Tryd.ntmps30
    go_wp2_with fail
    go_quiet ((first | (go_at_call 42; exact quiet_same (one_walk' _ _)) | (go_at_call 41; exact quiet_same (field_any _ _ _ _ (by (first | exact FB.zero | exact FB.zero.f _ | exact (FB.zero.f _).f _ | exact ((FB.zero.f _).f _).f _ | exact (((FB.zero.f _).f _).f _).f _ | exact ((((FB.zero.f _).f _).f _).f _).f _ | exact (((((FB.zero.f _).f _).f _).f _).f _).f _)) (by decide) (by (first | assumption | exact HU.out | exact HV.out | decide | omega)) (by decide)))))
    go_wp2_with fail
    ( refine (field_any _ _ _ _ (by (first | exact FB.zero | exact FB.zero.f _ | exact (FB.zero.f _).f _ | exact ((FB.zero.f _).f _).f _ | exact (((FB.zero.f _).f _).f _).f _ | exact ((((FB.zero.f _).f _).f _).f _).f _ | exact (((((FB.zero.f _).f _).f _).f _).f _).f _)) (by decide) (by (first | assumption | exact HU.out | exact HV.out | decide | omega)) (by decide)).mono ?_ ; rintro e w' ⟨rfl, rfl⟩ ; go_wp2_with fail)
    ( go_ret ; refine ⟨ret_int ?_, below_drewN ((Below.refl _ _).alloc (Nat.le_refl _) _) _⟩ ; exact fb_mod (((((((FB.zero.f _).f _).f _).f _).f _).f _).f _))
  · go_enter Tryd.func30, Tryd.ntmps30
    go_wp2_with fail
    go_quiet ((first | (go_at_call 42; exact quiet_same (one_walk' _ _)) | (go_at_call 41; exact quiet_same (field_any _ _ _ _ (by (first | exact FB.zero | exact FB.zero.f _ | exact (FB.zero.f _).f _ | exact ((FB.zero.f _).f _).f _ | exact (((FB.zero.f _).f _).f _).f _ | exact ((((FB.zero.f _).f _).f _).f _).f _ | exact (((((FB.zero.f _).f _).f _).f _).f _).f _)) (by decide) (by (first | assumption | exact HU.out | exact HV.out | decide | omega)) (by decide)))))
    go_wp2_with fail
    ( refine (field_any _ _ _ _ (by (first | exact FB.zero | exact FB.zero.f _ | exact (FB.zero.f _).f _ | exact ((FB.zero.f _).f _).f _ | exact (((FB.zero.f _).f _).f _).f _ | exact ((((FB.zero.f _).f _).f _).f _).f _ | exact (((((FB.zero.f _).f _).f _).f _).f _).f _)) (by decide) (by (first | assumption | exact HU.out | exact HV.out | decide | omega)) (by decide)).mono ?_ ; rintro e w' ⟨rfl, rfl⟩ ; go_wp2_with fail)
    ( go_ret ; refine ⟨ret_int ?_, below_drewN ((Below.refl _ _).alloc (Nat.le_refl _) _) _⟩ ; exact fb_mod (((((((FB.zero.f _).f _).f _).f _).f _).f _).f _))
  · go_enter Tryd.func30, Tryd.ntmps30
    go_wp2_with fail
    go_quiet ((first | (go_at_call 42; exact quiet_same (one_walk' _ _)) | (go_at_call 41; exact quiet_same (field_any _ _ _ _ (by (first | exact FB.zero | exact FB.zero.f _ | exact (FB.zero.f _).f _ | exact ((FB.zero.f _).f _).f _ | exact (((FB.zero.f _).f _).f _).f _ | exact ((((FB.zero.f _).f _).f _).f _).f _ | exact (((((FB.zero.f _).f _).f _).f _).f _).f _)) (by decide) (by (first | assumption | exact HU.out | exact HV.out | decide | omega)) (by decide)))))
    go_wp2_with fail
    ( refine (field_any _ _ _ _ (by (first | exact FB.zero | exact FB.zero.f _ | exact (FB.zero.f _).f _ | exact ((FB.zero.f _).f _).f _ | exact (((FB.zero.f _).f _).f _).f _ | exact ((((FB.zero.f _).f _).f _).f _).f _ | exact (((((FB.zero.f _).f _).f _).f _).f _).f _)) (by decide) (by (first | assumption | exact HU.out | exact HV.out | decide | omega)) (by decide)).mono ?_ ; rintro e w' ⟨rfl, rfl⟩ ; go_wp2_with fail)
    ( go_ret ; refine ⟨ret_int ?_, below_drewN ((Below.refl _ _).alloc (Nat.le_refl _) _) _⟩ ; exact fb_mod ((((((FB.zero.f _).f _).f _).f _).f _).f _))
  · go_enter Tryd.func30, Tryd.ntmps30
    go_wp2_with fail
    go_quiet ((first | (go_at_call 42; exact quiet_same (one_walk' _ _)) | (go_at_call 41; exact quiet_same (field_any _ _ _ _ (by (first | exact FB.zero | exact FB.zero.f _ | exact (FB.zero.f _).f _ | exact ((FB.zero.f _).f _).f _ | exact (((FB.zero.f _).f _).f _).f _ | exact ((((FB.zero.f _).f _).f _).f _).f _ | exact (((((FB.zero.f _).f _).f _).f _).f _).f _)) (by decide) (by (first | assumption | exact HU.out | exact HV.out | decide | omega)) (by decide)))))
    go_wp2_with fail
    ( refine (field_any _ _ _ _ (by (first | exact FB.zero | exact FB.zero.f _ | exact (FB.zero.f _).f _ | exact ((FB.zero.f _).f _).f _ | exact (((FB.zero.f _).f _).f _).f _ | exact ((((FB.zero.f _).f _).f _).f _).f _ | exact (((((FB.zero.f _).f _).f _).f _).f _).f _)) (by decide) (by (first | assumption | exact HU.out | exact HV.out | decide | omega)) (by decide)).mono ?_ ; rintro e w' ⟨rfl, rfl⟩ ; go_wp2_with fail)
    ( go_ret ; refine ⟨ret_int ?_, below_drewN ((Below.refl _ _).alloc (Nat.le_refl _) _) _⟩ ; exact fb_mod ((((((FB.zero.f _).f _).f _).f _).f _).f _))
  · go_enter Tryd.func30, Tryd.ntmps30
    go_wp2_with fail
    go_quiet ((first | (go_at_call 42; exact quiet_same (one_walk' _ _)) | (go_at_call 41; exact quiet_same (field_any _ _ _ _ (by (first | exact FB.zero | exact FB.zero.f _ | exact (FB.zero.f _).f _ | exact ((FB.zero.f _).f _).f _ | exact (((FB.zero.f _).f _).f _).f _ | exact ((((FB.zero.f _).f _).f _).f _).f _ | exact (((((FB.zero.f _).f _).f _).f _).f _).f _)) (by decide) (by (first | assumption | exact HU.out | exact HV.out | decide | omega)) (by decide)))))
    go_wp2_with fail
    ( go_ret ; refine ⟨ret_int ?_, below_drewN ((Below.refl _ _).alloc (Nat.le_refl _) _) _⟩ ; exact fb_mod (((((FB.zero.f _).f _).f _).f _).f _))
  · go_enter Tryd.func30, Tryd.ntmps30
    go_wp2_with fail
    go_quiet ((first | (go_at_call 42; exact quiet_same (one_walk' _ _)) | (go_at_call 41; exact quiet_same (field_any _ _ _ _ (by (first | exact FB.zero | exact FB.zero.f _ | exact (FB.zero.f _).f _ | exact ((FB.zero.f _).f _).f _ | exact (((FB.zero.f _).f _).f _).f _ | exact ((((FB.zero.f _).f _).f _).f _).f _ | exact (((((FB.zero.f _).f _).f _).f _).f _).f _)) (by decide) (by (first | assumption | exact HU.out | exact HV.out | decide | omega)) (by decide)))))
    go_wp2_with fail
    ( go_ret ; refine ⟨ret_int ?_, below_drewN ((Below.refl _ _).alloc (Nat.le_refl _) _) _⟩ ; exact fb_mod (((((FB.zero.f _).f _).f _).f _).f _))
  · go_enter Tryd.func30, Tryd.ntmps30
    go_wp2_with fail
    go_quiet ((first | (go_at_call 42; exact quiet_same (one_walk' _ _)) | (go_at_call 41; exact quiet_same (field_any _ _ _ _ (by (first | exact FB.zero | exact FB.zero.f _ | exact (FB.zero.f _).f _ | exact ((FB.zero.f _).f _).f _ | exact (((FB.zero.f _).f _).f _).f _ | exact ((((FB.zero.f _).f _).f _).f _).f _ | exact (((((FB.zero.f _).f _).f _).f _).f _).f _)) (by decide) (by (first | assumption | exact HU.out | exact HV.out | decide | omega)) (by decide)))))
    go_wp2_with fail
    ( go_ret ; refine ⟨ret_int ?_, below_drewN ((Below.refl _ _).alloc (Nat.le_refl _) _) _⟩ ; exact fb_mod (((((((FB.zero.f _).f _).f _).f _).f _).f _).f _))

end Go.Proofs.YtmnmbpenonodiaaDoor
