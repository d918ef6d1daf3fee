/- Numbers of the scanner, plainly: digit by digit. -/
import Derived.Test.YtdgiijidgjagbaaScanName
import Derived.Laws.BitsAllLaws
namespace Go.Proofs.Ytdgiijidgjagbaa
set_option linter.unusedVariables false
set_option linter.unusedSimpArgs false
open Go.RowKit

theorem cut_snoc (s : List Int) (i k : Nat) (hi : i ≤ k) (hk : k < s.length) : cut s i (k + 1) = cut s i k ++ [s.getD k 0] := by
  unfold cut
  rw [show k + 1 - i = (k - i) + 1 by omega, List.take_succ_eq_append_getElem (by rw [List.length_drop]; omega), List.getElem_drop]
  congr 2
  rw [List.getD_eq_getElem?_getD, List.getElem?_eq_getElem hk]
  simp only [Option.getD_some]
  congr 1; omega
theorem cut_self (s : List Int) (i : Nat) : cut s i i = [] := by unfold cut; rw [Nat.sub_self, List.take_zero]
theorem cut_len (s : List Int) (i k : Nat) (hk : k ≤ s.length) : (cut s i k).length = k - i := by unfold cut; rw [List.length_take, List.length_drop]; omega
theorem cut_get (s : List Int) (i k j : Nat) (hk : k ≤ s.length) (hj : j < k - i) : (cut s i k).getD j 0 = s.getD (i + j) 0 := by
  unfold cut
  simp only [List.getD_eq_getElem?_getD, List.getElem?_take, if_pos hj, List.getElem?_drop]
theorem take_snoc' (l : List Int) (j : Nat) (hj : j < l.length) : l.take (j + 1) = l.take j ++ [l.getD j 0] := by
  rw [List.take_succ_eq_append_getElem hj, List.getD_eq_getElem?_getD, List.getElem?_eq_getElem hj]; rfl
theorem all_snoc (l : List Int) (v : Int) : (l ++ [v]).all digitB = (l.all digitB && digitB v) := by rw [List.all_append]; simp
theorem hexN_snoc (l : List Int) (v : Int) : hexN (l ++ [v]) = hexF (hexN l) v := by unfold hexN; rw [List.foldl_append]; rfl
theorem sig_snoc (l : List Int) (v : Int) : sig (l ++ [v]) = sigF (sig l) v := by unfold sig; rw [List.foldl_append]; rfl
theorem decN_snoc (l : List Int) (v : Int) : decN (l ++ [v]) = decF (decN l) v := by unfold decN; rw [List.foldl_append]; rfl
theorem sigF_le (k : Nat) (v : Int) : sigF k v ≤ k + 1 := by unfold sigF; split <;> omega
theorem sig_le (l : List Int) : sig l ≤ l.length := by
  unfold sig
  suffices ∀ (l : List Int) (k : Nat), l.foldl sigF k ≤ k + l.length by have := this l 0; omega
  intro l
  induction l with
  | nil => intro k; simp
  | cons x l ih =>
    intro k
    have := ih (sigF k x)
    have := sigF_le k x
    rw [List.foldl_cons, List.length_cons]; omega
theorem hexF_bd (n v : Int) : 0 ≤ hexF n v ∧ hexF n v < 4294967296 := by unfold hexF; omega
theorem hexN_bd (l : List Int) : 0 ≤ hexN l ∧ hexN l < 4294967296 := by
  unfold hexN
  suffices ∀ (l : List Int) (n : Int), 0 ≤ n ∧ n < 4294967296 → 0 ≤ l.foldl hexF n ∧ l.foldl hexF n < 4294967296 from this l 0 (by decide)
  intro l
  induction l with
  | nil => intro n h; exact h
  | cons x l ih => intro n _; rw [List.foldl_cons]; exact ih _ (hexF_bd _ _)
theorem decN_bd (l : List Int) (h : ∀ x ∈ l, 48 ≤ x) : 0 ≤ decN l ∧ decN l ≤ 4294967296 := by
  unfold decN
  suffices ∀ (l : List Int) (n : Int), (∀ x ∈ l, 48 ≤ x) → 0 ≤ n ∧ n ≤ 4294967296 → 0 ≤ l.foldl decF n ∧ l.foldl decF n ≤ 4294967296 from this l 0 h (by decide)
  intro l
  induction l with
  | nil => intro n _ h; exact h
  | cons x l ih =>
    intro n hx h
    rw [List.foldl_cons]
    refine ih _ (fun y hy => hx y (List.mem_cons_of_mem _ hy)) ?_
    have := hx x (List.mem_cons_self ..)
    unfold decF; omega
theorem hexB_bd {v : Int} (h : hexB v = true) : 48 ≤ v ∧ v ≤ 70 ∧ (digitB v = true → v ≤ 57) ∧ (digitB v = false → 65 ≤ v) := by
  unfold hexB at h
  cases hd : digitB v
  · rw [hd] at h; simp at h; exact ⟨by omega, by omega, fun h => (by cases h), fun _ => h.1⟩
  · unfold digitB at hd; simp at hd; exact ⟨hd.1, by omega, fun _ => hd.2, fun h => (by cases h)⟩
theorem digV_bd {v : Int} (h : hexB v = true) : 0 ≤ digV v ∧ digV v < 16 := by
  have h1 := hexB_bd h
  unfold digV
  cases hd : digitB v
  · have := h1.2.2.2 hd; simp; omega
  · have := h1.2.2.1 hd; simp; omega

theorem or_digit {x d : Int} (hx : 0 ≤ x ∧ x < 4294967296) (hd : 0 ≤ d ∧ d < 16) : bits .or .u32 (x * 16 % 4294967296) d = x * 16 % 4294967296 + d := by
  obtain ⟨n, rfl⟩ := Int.eq_ofNat_of_zero_le hx.1
  obtain ⟨m, rfl⟩ := Int.eq_ofNat_of_zero_le hd.1
  rw [show ((n : Int) * 16 % 4294967296) = ((n * 16 % 4294967296 : Nat) : Int) from by omega, u32_or_nat _ _ (by omega) (by omega), nat_join 4 _ _ (by omega) (by omega)]
  omega
theorem or_hexF {n v : Int} (hn : 0 ≤ n ∧ n < 4294967296) (hv : 0 ≤ digV v ∧ digV v < 16) : bits .or .u32 (n * 16 % 4294967296) (digV v) = hexF n v := by
  rw [or_digit hn hv]; unfold hexF; omega

theorem i32_wrap {ν : Int} (h0 : 0 ≤ ν) (h1 : ν < 4294967296) : i32 ν = wrap32 ν := by unfold i32 wrap32; split <;> omega

end Go.Proofs.Ytdgiijidgjagbaa
