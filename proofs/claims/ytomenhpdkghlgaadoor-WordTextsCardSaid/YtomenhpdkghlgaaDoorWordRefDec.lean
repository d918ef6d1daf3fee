/- Contract of the reference's Dec. -/
import Derived.Test.YtomenhpdkghlgaaDoorWordRefOf
namespace Go.Proofs.YtomenhpdkghlgaaDoor
set_option linter.unusedVariables false
set_option linter.unusedSimpArgs false
open Go.RowKit Go.Sort Go.Lib

/-- what stands while digits are put in front. -/
def St (N m : Nat) (ds : List UInt8) : Prop := (ds = [] ∧ m = N) ∨ (ds ≠ [] ∧ (if m = 0 then ds = decDigits N else decDigits m ++ ds = decDigits N))
theorem St.len {N m : Nat} {ds : List UInt8} (h : St N m ds) : ds.length ≤ N + 1 := by
  have hN := decDigits_length N
  have h1 : nDigits N ≤ N + 1 := by
    clear hN h
    induction N using Nat.strongRecOn with
    | _ u ih =>
      by_cases hu : u < 10
      · rw [nDigits_small hu]; omega
      · rw [nDigits_big hu]
        have := ih (u / 10) (by omega)
        omega
  rcases h with ⟨rfl, _⟩ | ⟨_, h⟩
  · simp
  · split at h
    · rw [h, hN]; exact h1
    · rw [← h, List.length_append] at hN; omega
theorem St.step {N m : Nat} {ds : List UInt8} (h : St N m ds) (hm : 0 < m ∨ ds = []) : St N (m / 10) (UInt8.ofNat (48 + m % 10) :: ds) := by
  right
  refine ⟨by simp, ?_⟩
  have key : ∀ (e : List UInt8), decDigits m ++ ds = decDigits N → (if m / 10 = 0 then UInt8.ofNat (48 + m % 10) :: ds = decDigits N else decDigits (m / 10) ++ UInt8.ofNat (48 + m % 10) :: ds = decDigits N) := by
    intro _ e
    by_cases hs : m < 10
    · rw [if_pos (by omega), ← e, decDigits, dif_pos hs, show m % 10 = m from by omega]; rfl
    · rw [if_neg (by omega), ← e]
      conv => rhs; rw [decDigits, dif_neg hs]
      rw [List.append_assoc]; rfl
  rcases h with ⟨rfl, rfl⟩ | ⟨hne, h⟩
  · exact key [] (by simp)
  · have hm' : 0 < m := hm.resolve_right hne
    rw [if_neg (by omega)] at h
    exact key [] h
theorem St.fin {N m : Nat} {ds : List UInt8} (h : St N m ds) (hm : m = 0) (hd : ds ≠ []) : ds = decDigits N := by
  rcases h with ⟨rfl, _⟩ | ⟨_, h⟩
  · exact absurd rfl hd
  · rwa [if_pos hm] at h

theorem ret_str {x y : ByteArray} (h : x = y) : Ending.returned (.string x) = .returned (.string y) := by rw [h]
def strLen : Value → Nat
  | .string s => s.size
  | _ => 0
theorem mk_cons (c : Int) (ds : List UInt8) (m : Nat) (h : c = 48 + m % 10) : strOf [c] ++ (⟨ds.toArray⟩ : ByteArray) = ⟨(UInt8.ofNat (48 + m % 10) :: ds).toArray⟩ := by
  apply ByteArray.ext
  have e : c.toNat = 48 + m % 10 := by omega
  simp [strOf, e]
theorem mk_size (ds : List UInt8) : (⟨ds.toArray⟩ : ByteArray).size = ds.length := by simp [ByteArray.size]
theorem mk_ne {ds : List UInt8} (h : ds ≠ []) : (⟨ds.toArray⟩ : ByteArray).toList.isEmpty = false := by
  rw [ByteArray.toList_eq]
  cases ds with
  | nil => exact absurd rfl h
  | cons a l => rfl

set_option maxRecDepth 100000 in
set_option maxHeartbeats 4000000 in
theorem rdec_walk (a : Int) (w : World) (ha : 0 ≤ a ∧ a < 4294967296) : Calls Tryd.prog 40 #[.int .u32 a] w fun e w' => e = .returned (.string (decB a)) ∧ Below w.heap.size w w' := by
  have hsb := W.sg_bd ha.1 ha.2
  have hsg := fun w => ref_signed a w ha
  obtain ⟨n, hn⟩ : ∃ n, n = W.sg a := ⟨_, rfl⟩
  rw [← hn] at hsg hsb
  have HN := Lib.hid hn
  have HS := Lib.hid hsg
  clear hn hsg
  by_cases hneg : n < 0
  · obtain ⟨N, hN⟩ : ∃ N : Nat, (N : Int) = -n := ⟨n.natAbs, by omega⟩
    have hd : decB a = ⟨#[45]⟩ ++ ⟨(decDigits N).toArray⟩ := by
      unfold decB itoa
      rw [← HN.out, if_pos hneg, show n.natAbs = N from by omega]
      apply ByteArray.ext
      simp
    have HD := Lib.hid hd
    have d1 : decide (n < 0) = true := decide_eq_true hneg
    have hw : wrap64 (-n) = (N : Int) := by rw [← hN]; unfold wrap64; omega
    have hNb : N ≤ 2147483648 := by omega
    have HNN : Hid (-n = (N : Int)) := hN.symm
    clear hd hN
    go_enter Tryd.func40, Tryd.ntmps40
    go_wp2_with fail
    refine (HS.out _).mono ?_
    rintro e w' ⟨rfl, rfl⟩
    go_wp2_with fail
    go_loopw [3, 5] (fun x t wr => ∃ (m : Nat) (ds : List UInt8), St N m ds ∧ m ≤ N ∧ x = .int .i64 m ∧ t = .string ⟨ds.toArray⟩ ∧ Below w.heap.size w wr) (fun x t _ => 2 * (RowKit.intOf x).toNat + (1 - strLen t))
    case atStart => exact ⟨N, [], .inl ⟨rfl, rfl⟩, Nat.le_refl _, by first | rfl | (rw [HNN.out]), rfl, Below.refl _ _⟩
    case round =>
      obtain ⟨m, ds, hst, hmN, rfl, rfl, hbel⟩ := hrel
      have HB := Lib.hid hbel
      have HST := Lib.hid hst
      have hlen := hst.len
      have hts := mk_size ds
      clear hbel hst
      by_cases hgo : 0 < m ∨ ds = []
      · have hnx := HST.out.step hgo
        have hmk := mk_cons (48 + ((m % 10 : Nat) : Int)) ds m (by omega)
        have hcv := str_one wr (48 + ((m % 10 : Nat) : Int)) (by omega)
        have hsz : ¬ 9223372036854775807 < (strOf [48 + ((m % 10 : Nat) : Int)]).size + (⟨ds.toArray⟩ : ByteArray).size := by rw [strOf_size, hts]; simp; omega
        have hme : ds = [] → (⟨ds.toArray⟩ : ByteArray) = ⟨#[]⟩ := fun h => by rw [h]
        obtain ⟨t, ht⟩ : ∃ t, t = (⟨ds.toArray⟩ : ByteArray) := ⟨_, rfl⟩
        obtain ⟨c, hc⟩ : ∃ c : Int, c = 48 + ((m % 10 : Nat) : Int) := ⟨_, rfl⟩
        rw [← ht] at hmk hsz hts hme
        rw [← hc] at hmk hcv hsz
        rw [← ht]
        have hc2 : 48 + (m : Int) % 10 = c := by rw [hc]; omega
        have hcb : 0 ≤ c ∧ c < 256 := by omega
        obtain ⟨t2, ht2⟩ : ∃ t2, strOf [c] ++ t = t2 := ⟨_, rfl⟩
        have hq : (m : Int) / 10 = ((m / 10 : Nat) : Int) := by omega
        have HQ := Lib.hid hq
        have HNX := Lib.hid hnx
        have HT2 := Lib.hid (ht2.symm.trans hmk)
        have HTS := Lib.hid hts
        have HGO := Lib.hid hgo
        have HTT := Lib.hid ht
        clear hnx hmk hc ht hgo hts hq
        by_cases hm0 : 0 < m
        · have d2 : decide (0 < (m : Int)) = true := decide_eq_true (by omega)
          clear hme
          go_wp2_with fail
          go_roundw
          case rel => exact ⟨m / 10, _, HNX.out, by omega, by rw [HQ.out], by rw [HT2.out], HB.out.alloc HB.out.size _⟩
          case measure =>
            have : strLen (.string t2) ≠ 0 := by rw [HT2.out]; simp [strLen, ByteArray.size]
            simp [RowKit.intOf]; omega
        · have d2 : decide (0 < (m : Int)) = false := decide_eq_false (by omega)
          have hds : ds = [] := HGO.out.resolve_left hm0
          have hte := hme hds
          subst hte
          clear hme
          go_wp2_with fail
          go_roundw
          case rel => exact ⟨m / 10, _, HNX.out, by omega, by rw [HQ.out], by rw [HT2.out], HB.out.alloc HB.out.size _⟩
          case measure =>
            have : strLen (.string t2) ≠ 0 := by rw [HT2.out]; simp [strLen, ByteArray.size]
            have h0 : m = 0 := by omega
            subst h0
            have e2 : strLen (.string (⟨#[]⟩ : ByteArray)) = 0 := rfl
            rw [e2]
            simp [RowKit.intOf]; omega
      · have hm0 : m = 0 := by omega
        have hdn : ds ≠ [] := fun h => hgo (.inr h)
        have hfin := HST.out.fin hm0 hdn
        have hne := mk_ne hdn
        have d2 : decide (0 < (m : Int)) = false := decide_eq_false (by omega)
        have hsz : ¬ 9223372036854775807 < (⟨#[45]⟩ : ByteArray).size + (⟨ds.toArray⟩ : ByteArray).size := by rw [hts]; simp [ByteArray.size]; omega
        rw [← hfin] at HD
        obtain ⟨t, ht⟩ : ∃ t, t = (⟨ds.toArray⟩ : ByteArray) := ⟨_, rfl⟩
        rw [← ht] at hne hsz HD
        rw [← ht]
        clear ht hfin hdn hgo hts
        go_wp2_with fail
        go_ret
        exact ⟨ret_str HD.out.symm, HB.out⟩
  · obtain ⟨N, hN⟩ : ∃ N : Nat, (N : Int) = n := ⟨n.toNat, by omega⟩
    have hd : decB a = ⟨#[]⟩ ++ ⟨(decDigits N).toArray⟩ := by
      unfold decB itoa
      rw [← HN.out, if_neg hneg, show n.toNat = N from by omega]
      apply ByteArray.ext
      simp
    have HD := Lib.hid hd
    have hNb : N ≤ 2147483648 := by omega
    subst hN
    have d1 : decide ((N : Int) < 0) = false := decide_eq_false hneg
    have HNN : Hid ((N : Int) = N) := rfl
    clear hd
    go_enter Tryd.func40, Tryd.ntmps40
    go_wp2_with fail
    refine (HS.out _).mono ?_
    rintro e w' ⟨rfl, rfl⟩
    go_wp2_with fail
    go_loopw [3, 5] (fun x t wr => ∃ (m : Nat) (ds : List UInt8), St N m ds ∧ m ≤ N ∧ x = .int .i64 m ∧ t = .string ⟨ds.toArray⟩ ∧ Below w.heap.size w wr) (fun x t _ => 2 * (RowKit.intOf x).toNat + (1 - strLen t))
    case atStart => exact ⟨N, [], .inl ⟨rfl, rfl⟩, Nat.le_refl _, by first | rfl | (rw [HNN.out]), rfl, Below.refl _ _⟩
    case round =>
      obtain ⟨m, ds, hst, hmN, rfl, rfl, hbel⟩ := hrel
      have HB := Lib.hid hbel
      have HST := Lib.hid hst
      have hlen := hst.len
      have hts := mk_size ds
      clear hbel hst
      by_cases hgo : 0 < m ∨ ds = []
      · have hnx := HST.out.step hgo
        have hmk := mk_cons (48 + ((m % 10 : Nat) : Int)) ds m (by omega)
        have hcv := str_one wr (48 + ((m % 10 : Nat) : Int)) (by omega)
        have hsz : ¬ 9223372036854775807 < (strOf [48 + ((m % 10 : Nat) : Int)]).size + (⟨ds.toArray⟩ : ByteArray).size := by rw [strOf_size, hts]; simp; omega
        have hme : ds = [] → (⟨ds.toArray⟩ : ByteArray) = ⟨#[]⟩ := fun h => by rw [h]
        obtain ⟨t, ht⟩ : ∃ t, t = (⟨ds.toArray⟩ : ByteArray) := ⟨_, rfl⟩
        obtain ⟨c, hc⟩ : ∃ c : Int, c = 48 + ((m % 10 : Nat) : Int) := ⟨_, rfl⟩
        rw [← ht] at hmk hsz hts hme
        rw [← hc] at hmk hcv hsz
        rw [← ht]
        have hc2 : 48 + (m : Int) % 10 = c := by rw [hc]; omega
        have hcb : 0 ≤ c ∧ c < 256 := by omega
        obtain ⟨t2, ht2⟩ : ∃ t2, strOf [c] ++ t = t2 := ⟨_, rfl⟩
        have hq : (m : Int) / 10 = ((m / 10 : Nat) : Int) := by omega
        have HQ := Lib.hid hq
        have HNX := Lib.hid hnx
        have HT2 := Lib.hid (ht2.symm.trans hmk)
        have HTS := Lib.hid hts
        have HGO := Lib.hid hgo
        have HTT := Lib.hid ht
        clear hnx hmk hc ht hgo hts hq
        by_cases hm0 : 0 < m
        · have d2 : decide (0 < (m : Int)) = true := decide_eq_true (by omega)
          clear hme
          go_wp2_with fail
          go_roundw
          case rel => exact ⟨m / 10, _, HNX.out, by omega, by rw [HQ.out], by rw [HT2.out], HB.out.alloc HB.out.size _⟩
          case measure =>
            have : strLen (.string t2) ≠ 0 := by rw [HT2.out]; simp [strLen, ByteArray.size]
            simp [RowKit.intOf]; omega
        · have d2 : decide (0 < (m : Int)) = false := decide_eq_false (by omega)
          have hds : ds = [] := HGO.out.resolve_left hm0
          have hte := hme hds
          subst hte
          clear hme
          go_wp2_with fail
          go_roundw
          case rel => exact ⟨m / 10, _, HNX.out, by omega, by rw [HQ.out], by rw [HT2.out], HB.out.alloc HB.out.size _⟩
          case measure =>
            have : strLen (.string t2) ≠ 0 := by rw [HT2.out]; simp [strLen, ByteArray.size]
            have h0 : m = 0 := by omega
            subst h0
            have e2 : strLen (.string (⟨#[]⟩ : ByteArray)) = 0 := rfl
            rw [e2]
            simp [RowKit.intOf]; omega
      · have hm0 : m = 0 := by omega
        have hdn : ds ≠ [] := fun h => hgo (.inr h)
        have hfin := HST.out.fin hm0 hdn
        have hne := mk_ne hdn
        have d2 : decide (0 < (m : Int)) = false := decide_eq_false (by omega)
        have hsz : ¬ 9223372036854775807 < (⟨#[]⟩ : ByteArray).size + (⟨ds.toArray⟩ : ByteArray).size := by rw [hts]; simp [ByteArray.size]; omega
        rw [← hfin] at HD
        obtain ⟨t, ht⟩ : ∃ t, t = (⟨ds.toArray⟩ : ByteArray) := ⟨_, rfl⟩
        rw [← ht] at hne hsz HD
        rw [← ht]
        clear ht hfin hdn hgo hts
        go_wp2_with fail
        go_ret
        exact ⟨ret_str HD.out.symm, HB.out⟩

end Go.Proofs.YtomenhpdkghlgaaDoor
