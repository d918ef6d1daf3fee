/- Numbers' digits, plainly: what is written is read. -/
import Derived.Test.YtdgiijidgjagbaaScanNum
namespace Go.Proofs.Ytdgiijidgjagbaa
set_option linter.unusedVariables false
set_option linter.unusedSimpArgs false
open Go.RowKit

def dc (d : Nat) : Int := if 9 < d then 55 + d else 48 + d
def chars (ds : List Nat) : List Int := ds.map dc
def nval (β : Nat) : List Nat → Nat
  | [] => 0
  | d :: ds => d * β ^ ds.length + nval β ds
structure DigAt (β u x : Nat) (ds : List Nat) : Prop where
  hx : x = u / β ^ ds.length
  hv : nval β ds = u % β ^ ds.length
  lt : ∀ d ∈ ds, d < β
theorem DigAt.start (β u : Nat) : DigAt β u u [] := ⟨by simp, by simp [nval, Nat.mod_one], fun d h => by cases h⟩
theorem DigAt.next {β u x : Nat} {ds : List Nat} (h : DigAt β u x ds) (hβ : 0 < β) : DigAt β u (x / β) (x % β :: ds) := by
  refine ⟨?_, ?_, fun d hd => ?_⟩
  · rw [h.hx, List.length_cons, Nat.pow_succ, Nat.div_div_eq_div_mul]
  · rw [nval, h.hv, h.hx, List.length_cons, Nat.mod_pow_succ, Nat.mul_comm]; omega
  · rcases List.mem_cons.1 hd with rfl | hd
    · exact Nat.mod_lt _ hβ
    · exact h.lt d hd
theorem DigAt.fin {β u : Nat} {ds : List Nat} (h : DigAt β u 0 ds) : nval β ds = u := by
  have h1 := h.hv
  have h2 := h.hx
  rw [h1]
  refine Nat.mod_eq_of_lt ?_
  rcases Nat.lt_or_ge u (β ^ ds.length) with h3 | h3
  · exact h3
  · rcases Nat.eq_zero_or_pos (β ^ ds.length) with h4 | h4
    · rw [h4, Nat.div_zero] at h2
      rw [h4] at h1 h3
      rw [Nat.mod_zero] at h1
      exfalso
      have h5 : β = 0 := by
        have := Nat.pow_eq_zero.1 h4
        exact this.1
      have h6 : ds ≠ [] := fun e => by subst e; simp at h4
      obtain ⟨d, t, rfl⟩ := List.exists_cons_of_ne_nil h6
      have := h.lt d (List.mem_cons_self ..)
      omega
    · have := Nat.div_pos h3 h4
      omega
/-- at most eight, in hexadecimal. -/
theorem DigAt.short {u x : Nat} {ds : List Nat} (h : DigAt 16 u x ds) (hu : u < 4294967296) (hx : 0 < x) : ds.length < 8 := by
  rcases Nat.lt_or_ge ds.length 8 with h1 | h1
  · exact h1
  · have h2 : 16 ^ 8 ≤ 16 ^ ds.length := Nat.pow_le_pow_right (by decide) h1
    have h3 : u / 16 ^ ds.length = 0 := Nat.div_eq_of_lt (by have : (16 : Nat) ^ 8 = 4294967296 := by decide
                                                             omega)
    have := h.hx
    omega
theorem DigAt.short10 {u x : Nat} {ds : List Nat} (h : DigAt 10 u x ds) (hu : u < 4294967296) (hx : 0 < x) : ds.length < 10 := by
  rcases Nat.lt_or_ge ds.length 10 with h1 | h1
  · exact h1
  · have h2 : 10 ^ 10 ≤ 10 ^ ds.length := Nat.pow_le_pow_right (by decide) h1
    have h3 : u / 10 ^ ds.length = 0 := Nat.div_eq_of_lt (by have : (10 : Nat) ^ 10 = 10000000000 := by decide
                                                             omega)
    have := h.hx
    omega

theorem dc_hex {d : Nat} (h : d < 16) : hexB (dc d) = true ∧ digV (dc d) = d := by
  rcases (by omega : d = 0 ∨ d = 1 ∨ d = 2 ∨ d = 3 ∨ d = 4 ∨ d = 5 ∨ d = 6 ∨ d = 7 ∨ d = 8 ∨ d = 9 ∨ d = 10 ∨ d = 11 ∨ d = 12 ∨ d = 13 ∨ d = 14 ∨ d = 15) with rfl | rfl | rfl | rfl | rfl | rfl | rfl | rfl | rfl | rfl | rfl | rfl | rfl | rfl | rfl | rfl <;> exact ⟨rfl, rfl⟩
theorem dc_dig {d : Nat} (h : d < 10) : digitB (dc d) = true ∧ dc d - 48 = d := by
  rcases (by omega : d = 0 ∨ d = 1 ∨ d = 2 ∨ d = 3 ∨ d = 4 ∨ d = 5 ∨ d = 6 ∨ d = 7 ∨ d = 8 ∨ d = 9) with rfl | rfl | rfl | rfl | rfl | rfl | rfl | rfl | rfl | rfl <;> exact ⟨rfl, rfl⟩

theorem hex_fold : ∀ (ds : List Nat) (n : Nat), (∀ d ∈ ds, d < 16) → (chars ds).foldl hexF (n : Int) % 4294967296 = (((n * 16 ^ ds.length + nval 16 ds : Nat) : Int)) % 4294967296 ∧ (ds = [] ∨ (chars ds).foldl hexF (n : Int) = (((n * 16 ^ ds.length + nval 16 ds) % 4294967296 : Nat) : Int))
  | [], n, _ => by simp [chars, nval]
  | d :: ds, n, h => by
    have hd := (dc_hex (h d (List.mem_cons_self ..))).2
    have hf : hexF (n : Int) (dc d) = (((16 * n + d) % 4294967296 : Nat) : Int) := by unfold hexF; rw [hd]; omega
    have ih := hex_fold ds ((16 * n + d) % 4294967296) (fun x hx => h x (List.mem_cons_of_mem _ hx))
    have e : ((16 * n + d) % 4294967296 * 16 ^ ds.length + nval 16 ds) % 4294967296 = (n * 16 ^ (ds.length + 1) + (d * 16 ^ ds.length + nval 16 ds)) % 4294967296 := by
      rw [Nat.add_mod, Nat.mul_mod, Nat.mod_mod, ← Nat.mul_mod, ← Nat.add_mod]
      congr 1
      rw [Nat.pow_succ, Nat.add_mul]
      have : 16 * n * 16 ^ ds.length = n * (16 ^ ds.length * 16) := by rw [Nat.mul_comm 16 n, Nat.mul_assoc, Nat.mul_comm 16]
      omega
    have hc : (chars (d :: ds)).foldl hexF (n : Int) = (chars ds).foldl hexF ((((16 * n + d) % 4294967296 : Nat)) : Int) := by
      show (chars ds).foldl hexF (hexF (n : Int) (dc d)) = _
      rw [hf]
    have hfin : (chars (d :: ds)).foldl hexF (n : Int) = (((n * 16 ^ (ds.length + 1) + (d * 16 ^ ds.length + nval 16 ds)) % 4294967296 : Nat) : Int) := by
      rw [hc]
      rcases ih.2 with rfl | h2
      · simp [chars, nval]; omega
      · rw [h2, e]
    refine ⟨?_, .inr (by rw [hfin]; rfl)⟩
    rw [hfin, List.length_cons, nval]; omega
theorem hex_val {ds : List Nat} (h : ∀ d ∈ ds, d < 16) (hu : nval 16 ds < 4294967296) (k : Nat) : hexN (List.replicate k 48 ++ chars ds) = (nval 16 ds : Int) := by
  unfold hexN
  rw [List.foldl_append]
  have h0 : ∀ k, (List.replicate k (48 : Int)).foldl hexF 0 = 0 := fun k => by
    induction k with
    | zero => rfl
    | succ k ih => rw [List.replicate_succ, List.foldl_cons]; exact ih
  rw [h0]
  rcases (hex_fold ds 0 h).2 with rfl | h2
  · rfl
  · have h3 : (chars ds).foldl hexF 0 = (((0 * 16 ^ ds.length + nval 16 ds) % 4294967296 : Nat) : Int) := h2
    rw [h3, Nat.zero_mul, Nat.zero_add, Nat.mod_eq_of_lt hu]
theorem sig_zeros {ds : List Nat} (k : Nat) : sig (List.replicate k 48 ++ chars ds) ≤ ds.length := by
  unfold sig
  rw [List.foldl_append]
  have h0 : ∀ k, (List.replicate k (48 : Int)).foldl sigF 0 = 0 := fun k => by
    induction k with
    | zero => rfl
    | succ k ih => rw [List.replicate_succ, List.foldl_cons]; exact ih
  rw [h0]
  have := sig_le (chars ds)
  unfold sig at this
  simpa [chars] using this
theorem dec_fold : ∀ (ds : List Nat) (n : Nat), (∀ d ∈ ds, d < 10) → n * 10 ^ ds.length + nval 10 ds ≤ 4294967296 → (chars ds).foldl decF (n : Int) = ((n * 10 ^ ds.length + nval 10 ds : Nat) : Int)
  | [], n, _, _ => by simp [chars, nval]
  | d :: ds, n, h, hb => by
    have hd := (dc_dig (h d (List.mem_cons_self ..))).2
    rw [List.length_cons, nval, Nat.pow_succ] at hb
    have hp : 0 < 10 ^ ds.length := Nat.pow_pos (by decide)
    have e : (n * 10 + d) * 10 ^ ds.length = n * (10 ^ ds.length * 10) + d * 10 ^ ds.length := by rw [Nat.add_mul, Nat.mul_assoc, Nat.mul_comm 10]
    have hle : n * 10 + d ≤ (n * 10 + d) * 10 ^ ds.length := Nat.le_mul_of_pos_right _ hp
    have hf : decF (n : Int) (dc d) = ((n * 10 + d : Nat) : Int) := by unfold decF; rw [hd]; omega
    have ih := dec_fold ds (n * 10 + d) (fun x hx => h x (List.mem_cons_of_mem _ hx)) (by omega)
    show (chars ds).foldl decF (decF (n : Int) (dc d)) = _
    rw [hf, ih, List.length_cons, nval, Nat.pow_succ]
    congr 1; omega
theorem dec_val {ds : List Nat} (h : ∀ d ∈ ds, d < 10) (hu : nval 10 ds < 4294967296) (k : Nat) : decN (List.replicate k 48 ++ chars ds) = (nval 10 ds : Int) := by
  unfold decN
  rw [List.foldl_append]
  have h0 : ∀ k, (List.replicate k (48 : Int)).foldl decF 0 = 0 := fun k => by
    induction k with
    | zero => rfl
    | succ k ih => rw [List.replicate_succ, List.foldl_cons]; exact ih
  rw [h0]
  have h2 := dec_fold ds 0 h (by omega)
  have h3 : (chars ds).foldl decF 0 = ((0 * 10 ^ ds.length + nval 10 ds : Nat) : Int) := h2
  rw [h3, Nat.zero_mul, Nat.zero_add]

end Go.Proofs.Ytdgiijidgjagbaa
