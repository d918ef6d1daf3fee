/- Contracts: Intern; the reference's Words, Outside. -/
import Derived.Test.YtdgiijidgjagbaaScanInv
import Derived.Test.YtdgiijidgjagbaaScanNum
namespace Go.Proofs.Ytdgiijidgjagbaa
set_option linter.unusedVariables false
set_option linter.unusedSimpArgs false
open Go.RowKit

variable {F : Nat → Prop} {w w' : World} {g : Nat} {s : Sc}

set_option maxRecDepth 20000 in
set_option maxHeartbeats 4000000 in
theorem words_walk (w : World) : Calls Try.prog 21 #[] w fun e w' => e = .returned (.slice (some ⟨w.heap.size, 0, none⟩) 29 29) ∧ w' = w.alloc (.cells (kwB.map nameV).toArray 9) := by
  have e : (kwB.map nameV).toArray = #[.string ⟨#[65, 82, 82, 65, 89]⟩, .string ⟨#[66, 69, 71, 73, 78]⟩, .string ⟨#[67, 79, 78, 83, 84]⟩, .string ⟨#[68, 73, 86]⟩, .string ⟨#[68, 79]⟩, .string ⟨#[69, 76, 83, 69]⟩, .string ⟨#[69, 76, 83, 73, 70]⟩, .string ⟨#[69, 78, 68]⟩, .string ⟨#[70, 65, 76, 83, 69]⟩, .string ⟨#[73, 70]⟩, .string ⟨#[73, 77, 80, 79, 82, 84]⟩, .string ⟨#[73, 78]⟩, .string ⟨#[77, 79, 68]⟩, .string ⟨#[77, 79, 68, 85, 76, 69]⟩, .string ⟨#[78, 73, 76]⟩, .string ⟨#[79, 70]⟩, .string ⟨#[79, 82]⟩, .string ⟨#[80, 79, 73, 78, 84, 69, 82]⟩, .string ⟨#[80, 82, 79, 67, 69, 68, 85, 82, 69]⟩, .string ⟨#[82, 69, 67, 79, 82, 68]⟩, .string ⟨#[82, 69, 80, 69, 65, 84]⟩, .string ⟨#[82, 69, 84, 85, 82, 78]⟩, .string ⟨#[84, 72, 69, 78]⟩, .string ⟨#[84, 79]⟩, .string ⟨#[84, 82, 85, 69]⟩, .string ⟨#[84, 89, 80, 69]⟩, .string ⟨#[85, 78, 84, 73, 76]⟩, .string ⟨#[86, 65, 82]⟩, .string ⟨#[87, 72, 73, 76, 69]⟩] := rfl
  rw [e]
  clear e
  go_enter Try.func21, Try.ntmps21
  go_wp2
  go_ret
  exact ⟨rfl, rfl⟩

set_option maxRecDepth 20000 in
set_option maxHeartbeats 4000000 in
theorem outside_walk (w : World) : Calls Try.prog 22 #[] w fun e w' => e = .returned (.slice (some ⟨w.heap.size, 0, none⟩) 28 28) ∧ w' = w.alloc (.cells (preB.map nameV).toArray 9) := by
  have e : (preB.map nameV).toArray = #[.string ⟨#[73, 78, 84, 69, 71, 69, 82]⟩, .string ⟨#[66, 79, 79, 76, 69, 65, 78]⟩, .string ⟨#[67, 72, 65, 82]⟩, .string ⟨#[66, 89, 84, 69]⟩, .string ⟨#[83, 69, 84]⟩, .string ⟨#[65, 66, 83]⟩, .string ⟨#[79, 68, 68]⟩, .string ⟨#[79, 82, 68]⟩, .string ⟨#[67, 72, 82]⟩, .string ⟨#[76, 83, 76]⟩, .string ⟨#[65, 83, 82]⟩, .string ⟨#[76, 69, 78]⟩, .string ⟨#[79, 76, 68]⟩, .string ⟨#[70, 82, 69, 83, 72]⟩, .string ⟨#[69, 79, 70]⟩, .string ⟨#[76, 69, 78, 71, 84, 72]⟩, .string ⟨#[73, 78, 67]⟩, .string ⟨#[68, 69, 67]⟩, .string ⟨#[78, 69, 87]⟩, .string ⟨#[65, 83, 83, 69, 82, 84]⟩, .string ⟨#[72, 65, 76, 84]⟩, .string ⟨#[82, 69, 65, 68]⟩, .string ⟨#[87, 82, 73, 84, 69]⟩, .string ⟨#[82, 69, 65, 68, 87]⟩, .string ⟨#[87, 82, 73, 84, 69, 87]⟩, .string ⟨#[83, 69, 69, 75]⟩, .string ⟨#[82, 69, 71, 73, 83, 84, 69, 82]⟩, .string ⟨#[68, 69, 76, 69, 84, 69]⟩] := rfl
  rw [e]
  clear e
  go_enter Try.func22, Try.ntmps22
  go_wp2
  go_ret
  exact ⟨rfl, rfl⟩

/-- a text's bytes, as numbers. -/
def nums (x : ByteArray) : List Int := x.data.toList.map fun c => ((c.toNat : Nat) : Int)
theorem nums_len (x : ByteArray) : (nums x).length = x.size := by unfold nums; rw [List.length_map]; rfl
theorem nums_at (x : ByteArray) (k : Nat) (h : k < x.size) : (nums x).getD k 0 = (((x[k]'h).toNat : Nat) : Int) := by
  have hk : k < x.data.toList.length := h
  unfold nums
  rw [List.getD_eq_getElem?_getD, List.getElem?_map, List.getElem?_eq_getElem hk]
  rfl
theorem nums_bd (x : ByteArray) : ∀ v ∈ nums x, 0 ≤ v ∧ v < 256 := by
  intro v hv
  unfold nums at hv
  obtain ⟨c, _, rfl⟩ := List.mem_map.1 hv
  have := c.toNat_lt
  omega

def base1 (l : List Int) : Bool := decide (1 ≤ l.length) && (decide (l.length ≤ 15) && letterB (l.getD 0 0))
def okN (l : List Int) : Bool := base1 l && l.all ldB
def Sc.pub (s : Sc) (x : ByteArray) : Int × Sc := if okN (nums x) then s.intern x.data.toList else (-1, s)

theorem there_is (H : Scn F w g s) : Calls Try.prog 27 #[.pointer (some ⟨g, 0, none⟩)] w fun e w' => e = .returned (.bool true) ∧ w = w' := by
  obtain ⟨a, c, n, m, h⟩ := H
  exact there_walk h

def PubIs (F : Nat → Prop) (w : World) (g : Nat) (r : Int × Sc) (e : Ending) (w' : World) : Prop :=
  e = .returned (.int .i64 r.1) ∧ Scn F w' g r.2 ∧ Ke (Off F) w w'
theorem intern_any (H : Scn F w g s) (hF : ∀ k, F k → k < w.heap.size) (x : ByteArray) (hx : x.size ≤ 100000) (r : Int × Sc) (hr : s.intern x.data.toList = r) :
    Calls Try.prog 42 #[.pointer (some ⟨g, 0, none⟩), .string x] w (PubIs F w g r) := by
  obtain ⟨a, c, n, m, h⟩ := H
  subst hr
  have := intern_walk h x.data.toList (by have : x.data.toList.length = x.size := rfl
                                          omega) hF
  rw [show nameV x.data.toList = .string x from by unfold nameV; simp] at this
  exact this.mono fun e w' ⟨h1, ⟨n', h2⟩, h3⟩ => ⟨h1, ⟨a, c, n', m, h2⟩, h3⟩

set_option maxRecDepth 20000 in
set_option maxHeartbeats 8000000 in
theorem pub_walk (H : Scn F w g s) (hF : ∀ k, F k → k < w.heap.size) (x : ByteArray) (hx : x.size ≤ 100000) :
    Calls Try.prog 23 #[.pointer (some ⟨g, 0, none⟩), .string x] w (PubIs F w g (s.pub x)) := by
  have HH := Lib.hid H
  have HF := Lib.hid hF
  have HX := Lib.hid hx
  have ht := there_is H
  have s1 : (x.size : Int) ≤ 100000 := by omega
  clear H hF hx
  obtain ⟨b0, hb0⟩ : ∃ b0, base1 (nums x) = b0 := ⟨_, rfl⟩
  have hcs : (x.size < 1 ∧ b0 = false) ∨ (1 ≤ x.size ∧ 15 < x.size ∧ b0 = false) ∨ (∃ h : 1 ≤ x.size, x.size ≤ 15 ∧ letterB (((x[0]'h).toNat : Nat) : Int) = b0) := by
    unfold base1 at hb0
    rw [nums_len] at hb0
    by_cases h1 : 1 ≤ x.size
    · by_cases h2 : x.size ≤ 15
      · refine .inr (.inr ⟨h1, h2, ?_⟩)
        rw [← nums_at x 0 h1, ← hb0]; simp [h1, h2]
      · exact .inr (.inl ⟨h1, by omega, by rw [← hb0]; simp [h2]⟩)
    · exact .inl ⟨by omega, by rw [← hb0]; simp [h1]⟩
  have HB0 := Lib.hid hb0
  clear hb0
  go_enter Try.func23, Try.ntmps23
  rcases hcs with ⟨h1, rfl⟩ | ⟨h1, h2, rfl⟩ | ⟨h1, h2, h3⟩
  · go_wp2_with (refine ht.mono ?_; rintro e w' ⟨rfl, rfl⟩)
    go_loopg [5, 26] x.size (fun gk okv idx wr => ∃ (j : Nat) (ok : Bool), j ≤ x.size ∧ x.size - j ≤ gk ∧ okv = .bool ok ∧ idx = .int .i64 j ∧ (false && ((nums x).take j).all ldB) = ok ∧ wr = w)
    case atStart => exact ⟨0, false, Nat.zero_le _, Nat.sub_le _ _, rfl, rfl, by simp, rfl⟩
    case round =>
      obtain ⟨j, ok, hj, hgk, rfl, rfl, hok, rfl⟩ := hrel
      have HG := Lib.hid hgk
      have HOK := Lib.hid hok
      have j1 : (0 : Int) ≤ j := by omega
      by_cases hjl : j < x.size
      · have j3 : (j : Int) < x.size := by omega
        have hsn : ((nums x).take (j + 1)).all ldB = (((nums x).take j).all ldB && ldB (((x[j]'hjl).toNat : Nat) : Int)) := by
          rw [take_snoc' (nums x) j (by rw [nums_len]; exact hjl), List.all_append, nums_at x j hjl]; simp
        have HSN := Lib.hid hsn
        clear hgk hj hok hsn
        cases ok
        · go_wp2
          go_roundg (gk - 1)
          case measure => have := HG.out; omega
          case rel => exact ⟨j + 1, false, hjl, by have := HG.out; omega, rfl, by go_num, by rw [HSN.out, ← Bool.and_assoc, HOK.out]; rfl, rfl⟩
        · by_cases hl : letterB (((x[j]'hjl).toNat : Nat) : Int) = true
          · have HLD : Hid (ldB (((x[j]'hjl).toNat : Nat) : Int) = true) := Lib.hid (by unfold ldB; rw [hl]; rfl)
            go_wp2_with (refine (letter_is _ true hl _).mono ?_; rintro e w' ⟨rfl, rfl⟩)
            go_roundg (gk - 1)
            case measure => have := HG.out; omega
            case rel => exact ⟨j + 1, true, hjl, by have := HG.out; omega, rfl, by go_num, by rw [HSN.out, ← Bool.and_assoc, HOK.out, HLD.out]; rfl, rfl⟩
          · have hl' : letterB (((x[j]'hjl).toNat : Nat) : Int) = false := by simpa using hl
            obtain ⟨dv, hdv⟩ : ∃ dv, digitB (((x[j]'hjl).toNat : Nat) : Int) = dv := ⟨_, rfl⟩
            have HDV := Lib.hid hdv
            have HLD : Hid (ldB (((x[j]'hjl).toNat : Nat) : Int) = dv) := Lib.hid (by unfold ldB; rw [hl', hdv]; rfl)
            clear hdv
            go_wp2_with (first | (refine (letter_is _ false hl' _).mono ?_; rintro e w' ⟨rfl, rfl⟩) | (refine (digit_is _ dv HDV.out _).mono ?_; rintro e w' ⟨rfl, rfl⟩))
            go_roundg (gk - 1)
            case measure => have := HG.out; omega
            case rel => exact ⟨j + 1, dv, hjl, by have := HG.out; omega, rfl, by go_num, by rw [HSN.out, ← Bool.and_assoc, HOK.out, HLD.out]; rfl, rfl⟩
      · have hjs : j = x.size := by omega
        have HKN : Hid (okN (nums x) = ok) := Lib.hid (by unfold okN; rw [HB0.out, ← hok, hjs, List.take_of_length_le (by rw [nums_len]; exact Nat.le_refl _)])
        clear hgk hj hok
        subst hjs
        cases ok
        · have HP : Hid (s.pub x = (-1, s)) := Lib.hid (by unfold Sc.pub; rw [HKN.out]; rfl)
          go_wp2
          go_ret
          exact ⟨by rw [HP.out]; rfl, by rw [HP.out]; exact HH.out, Ke.refl _ _⟩
        · have HP : Hid (s.pub x = s.intern x.data.toList) := Lib.hid (by unfold Sc.pub; rw [HKN.out]; rfl)
          go_wp2_with (refine (intern_any HH.out HF.out x HX.out _ rfl).mono ?_; rintro e w2 ⟨rfl, h2, k2⟩; have H2 := Lib.hid h2; have K2 := Lib.hid k2; clear h2 k2)
          go_ret
          exact ⟨by rw [HP.out]; rfl, by rw [HP.out]; exact H2.out, K2.out⟩
  · go_wp2_with (refine ht.mono ?_; rintro e w' ⟨rfl, rfl⟩)
    go_loopg [5, 26] x.size (fun gk okv idx wr => ∃ (j : Nat) (ok : Bool), j ≤ x.size ∧ x.size - j ≤ gk ∧ okv = .bool ok ∧ idx = .int .i64 j ∧ (false && ((nums x).take j).all ldB) = ok ∧ wr = w)
    case atStart => exact ⟨0, false, Nat.zero_le _, Nat.sub_le _ _, rfl, rfl, by simp, rfl⟩
    case round =>
      obtain ⟨j, ok, hj, hgk, rfl, rfl, hok, rfl⟩ := hrel
      have HG := Lib.hid hgk
      have HOK := Lib.hid hok
      have j1 : (0 : Int) ≤ j := by omega
      by_cases hjl : j < x.size
      · have j3 : (j : Int) < x.size := by omega
        have hsn : ((nums x).take (j + 1)).all ldB = (((nums x).take j).all ldB && ldB (((x[j]'hjl).toNat : Nat) : Int)) := by
          rw [take_snoc' (nums x) j (by rw [nums_len]; exact hjl), List.all_append, nums_at x j hjl]; simp
        have HSN := Lib.hid hsn
        clear hgk hj hok hsn
        cases ok
        · go_wp2
          go_roundg (gk - 1)
          case measure => have := HG.out; omega
          case rel => exact ⟨j + 1, false, hjl, by have := HG.out; omega, rfl, by go_num, by rw [HSN.out, ← Bool.and_assoc, HOK.out]; rfl, rfl⟩
        · by_cases hl : letterB (((x[j]'hjl).toNat : Nat) : Int) = true
          · have HLD : Hid (ldB (((x[j]'hjl).toNat : Nat) : Int) = true) := Lib.hid (by unfold ldB; rw [hl]; rfl)
            go_wp2_with (refine (letter_is _ true hl _).mono ?_; rintro e w' ⟨rfl, rfl⟩)
            go_roundg (gk - 1)
            case measure => have := HG.out; omega
            case rel => exact ⟨j + 1, true, hjl, by have := HG.out; omega, rfl, by go_num, by rw [HSN.out, ← Bool.and_assoc, HOK.out, HLD.out]; rfl, rfl⟩
          · have hl' : letterB (((x[j]'hjl).toNat : Nat) : Int) = false := by simpa using hl
            obtain ⟨dv, hdv⟩ : ∃ dv, digitB (((x[j]'hjl).toNat : Nat) : Int) = dv := ⟨_, rfl⟩
            have HDV := Lib.hid hdv
            have HLD : Hid (ldB (((x[j]'hjl).toNat : Nat) : Int) = dv) := Lib.hid (by unfold ldB; rw [hl', hdv]; rfl)
            clear hdv
            go_wp2_with (first | (refine (letter_is _ false hl' _).mono ?_; rintro e w' ⟨rfl, rfl⟩) | (refine (digit_is _ dv HDV.out _).mono ?_; rintro e w' ⟨rfl, rfl⟩))
            go_roundg (gk - 1)
            case measure => have := HG.out; omega
            case rel => exact ⟨j + 1, dv, hjl, by have := HG.out; omega, rfl, by go_num, by rw [HSN.out, ← Bool.and_assoc, HOK.out, HLD.out]; rfl, rfl⟩
      · have hjs : j = x.size := by omega
        have HKN : Hid (okN (nums x) = ok) := Lib.hid (by unfold okN; rw [HB0.out, ← hok, hjs, List.take_of_length_le (by rw [nums_len]; exact Nat.le_refl _)])
        clear hgk hj hok
        subst hjs
        cases ok
        · have HP : Hid (s.pub x = (-1, s)) := Lib.hid (by unfold Sc.pub; rw [HKN.out]; rfl)
          go_wp2
          go_ret
          exact ⟨by rw [HP.out]; rfl, by rw [HP.out]; exact HH.out, Ke.refl _ _⟩
        · have HP : Hid (s.pub x = s.intern x.data.toList) := Lib.hid (by unfold Sc.pub; rw [HKN.out]; rfl)
          go_wp2_with (refine (intern_any HH.out HF.out x HX.out _ rfl).mono ?_; rintro e w2 ⟨rfl, h2, k2⟩; have H2 := Lib.hid h2; have K2 := Lib.hid k2; clear h2 k2)
          go_ret
          exact ⟨by rw [HP.out]; rfl, by rw [HP.out]; exact H2.out, K2.out⟩
  · have h4 : ¬ x.size = 0 := by omega
    have h5 : 0 < x.size := by omega
    go_wp2_with (first | (refine ht.mono ?_; rintro e w' ⟨rfl, rfl⟩) | (refine (letter_is _ b0 h3 _).mono ?_; rintro e w' ⟨rfl, rfl⟩))
    go_loopg [5, 26] x.size (fun gk okv idx wr => ∃ (j : Nat) (ok : Bool), j ≤ x.size ∧ x.size - j ≤ gk ∧ okv = .bool ok ∧ idx = .int .i64 j ∧ (b0 && ((nums x).take j).all ldB) = ok ∧ wr = w)
    case atStart => exact ⟨0, b0, Nat.zero_le _, Nat.sub_le _ _, rfl, rfl, by simp, rfl⟩
    case round =>
      obtain ⟨j, ok, hj, hgk, rfl, rfl, hok, rfl⟩ := hrel
      have HG := Lib.hid hgk
      have HOK := Lib.hid hok
      have j1 : (0 : Int) ≤ j := by omega
      by_cases hjl : j < x.size
      · have j3 : (j : Int) < x.size := by omega
        have hsn : ((nums x).take (j + 1)).all ldB = (((nums x).take j).all ldB && ldB (((x[j]'hjl).toNat : Nat) : Int)) := by
          rw [take_snoc' (nums x) j (by rw [nums_len]; exact hjl), List.all_append, nums_at x j hjl]; simp
        have HSN := Lib.hid hsn
        clear hgk hj hok hsn
        cases ok
        · go_wp2
          go_roundg (gk - 1)
          case measure => have := HG.out; omega
          case rel => exact ⟨j + 1, false, hjl, by have := HG.out; omega, rfl, by go_num, by rw [HSN.out, ← Bool.and_assoc, HOK.out]; rfl, rfl⟩
        · by_cases hl : letterB (((x[j]'hjl).toNat : Nat) : Int) = true
          · have HLD : Hid (ldB (((x[j]'hjl).toNat : Nat) : Int) = true) := Lib.hid (by unfold ldB; rw [hl]; rfl)
            go_wp2_with (refine (letter_is _ true hl _).mono ?_; rintro e w' ⟨rfl, rfl⟩)
            go_roundg (gk - 1)
            case measure => have := HG.out; omega
            case rel => exact ⟨j + 1, true, hjl, by have := HG.out; omega, rfl, by go_num, by rw [HSN.out, ← Bool.and_assoc, HOK.out, HLD.out]; rfl, rfl⟩
          · have hl' : letterB (((x[j]'hjl).toNat : Nat) : Int) = false := by simpa using hl
            obtain ⟨dv, hdv⟩ : ∃ dv, digitB (((x[j]'hjl).toNat : Nat) : Int) = dv := ⟨_, rfl⟩
            have HDV := Lib.hid hdv
            have HLD : Hid (ldB (((x[j]'hjl).toNat : Nat) : Int) = dv) := Lib.hid (by unfold ldB; rw [hl', hdv]; rfl)
            clear hdv
            go_wp2_with (first | (refine (letter_is _ false hl' _).mono ?_; rintro e w' ⟨rfl, rfl⟩) | (refine (digit_is _ dv HDV.out _).mono ?_; rintro e w' ⟨rfl, rfl⟩))
            go_roundg (gk - 1)
            case measure => have := HG.out; omega
            case rel => exact ⟨j + 1, dv, hjl, by have := HG.out; omega, rfl, by go_num, by rw [HSN.out, ← Bool.and_assoc, HOK.out, HLD.out]; rfl, rfl⟩
      · have hjs : j = x.size := by omega
        have HKN : Hid (okN (nums x) = ok) := Lib.hid (by unfold okN; rw [HB0.out, ← hok, hjs, List.take_of_length_le (by rw [nums_len]; exact Nat.le_refl _)])
        clear hgk hj hok
        subst hjs
        cases ok
        · have HP : Hid (s.pub x = (-1, s)) := Lib.hid (by unfold Sc.pub; rw [HKN.out]; rfl)
          go_wp2
          go_ret
          exact ⟨by rw [HP.out]; rfl, by rw [HP.out]; exact HH.out, Ke.refl _ _⟩
        · have HP : Hid (s.pub x = s.intern x.data.toList) := Lib.hid (by unfold Sc.pub; rw [HKN.out]; rfl)
          go_wp2_with (refine (intern_any HH.out HF.out x HX.out _ rfl).mono ?_; rintro e w2 ⟨rfl, h2, k2⟩; have H2 := Lib.hid h2; have K2 := Lib.hid k2; clear h2 k2)
          go_ret
          exact ⟨by rw [HP.out]; rfl, by rw [HP.out]; exact H2.out, K2.out⟩

end Go.Proofs.Ytdgiijidgjagbaa
