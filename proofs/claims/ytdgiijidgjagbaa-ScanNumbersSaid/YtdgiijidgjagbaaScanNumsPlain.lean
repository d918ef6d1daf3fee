/- What New finds in digits and a letter behind, plainly. -/
import Derived.Test.YtdgiijidgjagbaaScanDigits
import Derived.Test.YtdgiijidgjagbaaScanKnown
namespace Go.Proofs.Ytdgiijidgjagbaa
set_option linter.unusedVariables false
set_option linter.unusedSimpArgs false
open Go.RowKit

theorem getD_in {l : List Int} {i : Nat} (h : i < l.length) : l.getD i 0 ∈ l := by
  rw [List.getD_eq_getElem?_getD, List.getElem?_eq_getElem h]; exact List.getElem_mem h
theorem getD_left {r t : List Int} {i : Nat} (h : i < r.length) : (r ++ t).getD i 0 = r.getD i 0 := by
  simp only [List.getD_eq_getElem?_getD, List.getElem?_append_left h]
theorem run_app {p : Int → Bool} {r t : List Int} (h0 : p 0 = false) (hr : ∀ x ∈ r, p x = true) (ht : p ((r ++ t).getD r.length 0) = false) : run p (r ++ t) 0 = r.length := by
  have hle := run_le (p := p) (s := r ++ t) (i := 0) (Nat.zero_le _)
  have hst := run_stop h0 (s := r ++ t) (i := 0)
  rcases Nat.lt_trichotomy (run p (r ++ t) 0) r.length with h | h | h
  · rw [getD_left h, hr _ (getD_in h)] at hst; cases hst
  · exact h
  · have := run_all (p := p) (s := r ++ t) (i := 0) (j := r.length) (Nat.zero_le _) h
    rw [ht] at this; cases this
theorem cut_app (r t : List Int) : cut (r ++ t) 0 r.length = r := by unfold cut; simp
theorem dig_letter {b : Int} (h : digitB b = true) : letterB b = false ∧ 48 ≤ b ∧ b ≤ 57 := by
  unfold digitB at h
  simp only [Bool.and_eq_true, decide_eq_true_eq] at h
  unfold letterB
  refine ⟨?_, h⟩
  rw [decide_eq_false (by omega : ¬ 65 ≤ b), decide_eq_false (by omega : ¬ 97 ≤ b)]; rfl
theorem new_num {r t : List Int} (hne : 0 < r.length) (h0 : digitB (r.getD 0 0) = true) : newS (r ++ t) = ({ Sc.fresh (r ++ t) with at' := 0, sym := Sym.at 0 } : Sc).number := by
  have hb : (r ++ t).getD 0 0 = r.getD 0 0 := getD_left hne
  have hd := dig_letter h0
  have hl : 0 < (r ++ t).length := by rw [List.length_append]; omega
  have hbl : blank (r ++ t) 0 = (true, 0) := by
    rw [blank_in hl, hb, if_neg (by omega)]
    have : opens (r ++ t) 0 = false := by unfold opens; rw [hb, decide_eq_false (by omega)]; rfl
    rw [this]; rfl
  unfold newS Sc.get
  show (if (0 : Int) ≠ 0 then _ else _) = _
  rw [if_neg (by decide)]
  show (if (blank (r ++ t) 0).1 = false then _ else _) = _
  simp only [Sc.fresh, hbl]
  rw [if_neg (by decide), if_neg (by omega), hb, hd.1, h0]
  rfl
theorem num_letter {r : List Int} {b : Int} (hb : b = 72 ∨ b = 88) (hne : 0 < r.length) (h0 : digitB (r.getD 0 0) = true) (hr : ∀ x ∈ r, hexB x = true) (hs : sig r ≤ 8) :
    (newS (r ++ [b])).sym = if b = 88 ∧ 255 < hexN r then Sym.at 0 else ⟨if b = 88 then 27 else 26, 0, i32 (hexN r), 0, []⟩ := by
  rw [new_num hne h0]
  have hg : (r ++ [b]).getD r.length 0 = b := by simp [List.getD_eq_getElem?_getD]
  have hk : run hexB (r ++ [b]) 0 = r.length := run_app (by decide) hr (by rw [hg]; rcases hb with rfl | rfl <;> decide)
  unfold Sc.number
  simp only [Sc.fresh, hk, hg, cut_app]
  rw [if_pos hb]
  by_cases h : b = 88 ∧ 255 < hexN r
  · rw [if_pos (.inr h), if_pos h]
    rfl
  · rw [if_neg (by rintro (h1 | h1)
                   · omega
                   · exact h h1), if_neg h]
    rfl
theorem num_dec {r : List Int} (hne : 0 < r.length) (hr : ∀ x ∈ r, digitB x = true) :
    (newS r).sym = if 2147483647 < decN r then Sym.at 0 else ⟨26, 0, decN r, 0, []⟩ := by
  have e : r = r ++ [] := (List.append_nil r).symm
  have h0 : digitB (r.getD 0 0) = true := hr _ (getD_in hne)
  have hn : newS r = ({ Sc.fresh r with at' := 0, sym := Sym.at 0 } : Sc).number := by
    have := new_num (t := []) hne h0
    rwa [List.append_nil] at this
  rw [hn]
  have hg : r.getD r.length 0 = 0 := getD_end (Nat.le_refl _)
  have hk : run hexB r 0 = r.length := by
    have := run_app (p := hexB) (r := r) (t := []) (by decide) (fun x hx => by unfold hexB; rw [hr x hx]; rfl) (by rw [List.append_nil, hg]; rfl)
    rwa [List.append_nil] at this
  have hc : cut r 0 r.length = r := by unfold cut; simp
  have ha : r.all digitB = true := List.all_eq_true.2 hr
  unfold Sc.number
  simp only [Sc.fresh, hk, hg, hc, ha]
  rw [if_neg (by decide)]
  by_cases h : 2147483647 < decN r
  · rw [if_pos (.inr h), if_pos h]; rfl
  · rw [if_neg (by rintro (h1 | h1)
                   · cases h1
                   · exact h h1), if_neg h]
    rfl

/-- noughts and digits. -/
def zd (k : Nat) (ds : List Nat) : List Int := List.replicate k 48 ++ chars ds
theorem zd_len (k : Nat) (ds : List Nat) : (zd k ds).length = k + ds.length := by simp [zd, chars]
theorem zd_mem {k : Nat} {ds : List Nat} {x : Int} (h : x ∈ zd k ds) : x = 48 ∨ ∃ d ∈ ds, x = dc d := by
  rcases List.mem_append.1 h with h | h
  · exact .inl (List.eq_of_mem_replicate h)
  · obtain ⟨d, h1, h2⟩ := List.mem_map.1 h
    exact .inr ⟨d, h1, h2.symm⟩
theorem zd_hex {k : Nat} {ds : List Nat} (h : ∀ d ∈ ds, d < 16) : ∀ x ∈ zd k ds, hexB x = true := by
  intro x hx
  rcases zd_mem hx with rfl | ⟨d, h1, rfl⟩
  · rfl
  · exact (dc_hex (h d h1)).1
theorem zd_dig {k : Nat} {ds : List Nat} (h : ∀ d ∈ ds, d < 10) : ∀ x ∈ zd k ds, digitB x = true := by
  intro x hx
  rcases zd_mem hx with rfl | ⟨d, h1, rfl⟩
  · rfl
  · exact (dc_dig (h d h1)).1
theorem zd_bd {k : Nat} {ds : List Nat} (h : ∀ d ∈ ds, d < 16) : ∀ x ∈ zd k ds, IntKind.min .u8 ≤ x ∧ x ≤ IntKind.max .u8 := by
  intro x hx
  have := hexB_bd (zd_hex h x hx)
  refine bd_u8' (by omega)
theorem hex_new {u : Nat} (hu : u < 4294967296) {ds : List Nat} (h : DigAt 16 u 0 ds) (hl : ds.length ≤ 8) (k : Nat) {b : Int} (hb : b = 72 ∨ b = 88) :
    (newS (zd (k + 1) ds ++ [b])).sym = if b = 88 ∧ 255 < u then Sym.at 0 else ⟨if b = 88 then 27 else 26, 0, i32 u, 0, []⟩ := by
  have e := num_letter (r := zd (k + 1) ds) hb (by rw [zd_len]; omega) (by rfl) (zd_hex h.lt) (Nat.le_trans (sig_zeros (k + 1)) hl)
  rw [show hexN (zd (k + 1) ds) = (u : Int) by rw [zd, hex_val h.lt (by rw [h.fin]; exact hu), h.fin]] at e
  rw [e]
  by_cases hc : 255 < u
  · have : (255 : Int) < u := by omega
    simp [hc, this]
  · have : ¬ (255 : Int) < u := by omega
    simp [hc, this]
theorem dec_new {u : Nat} (hu : u < 4294967296) {ds : List Nat} (h : DigAt 10 u 0 ds) (hne : ds ≠ []) (k : Nat) :
    (newS (zd k ds)).sym = if 2147483647 < u then Sym.at 0 else ⟨26, 0, u, 0, []⟩ := by
  have hp : 0 < ds.length := List.length_pos_iff.2 hne
  have e := num_dec (r := zd k ds) (by rw [zd_len]; omega) (zd_dig h.lt)
  rw [show decN (zd k ds) = (u : Int) by rw [zd, dec_val h.lt (by rw [h.fin]; exact hu), h.fin]] at e
  rw [e]
  by_cases hc : 2147483647 < u
  · rw [if_pos (by omega), if_pos hc]
  · rw [if_neg (by omega), if_neg hc]

end Go.Proofs.Ytdgiijidgjagbaa
