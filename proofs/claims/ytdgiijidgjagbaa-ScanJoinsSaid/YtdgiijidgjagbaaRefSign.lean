/- Contract: the reference's Sign. -/
import Derived.Test.YtdgiijidgjagbaaRefBlank
import Derived.Test.YtdgiijidgjagbaaScanRead
import Derived.Outline
namespace Go.Proofs.Ytdgiijidgjagbaa
set_option linter.unusedVariables false
set_option linter.unusedSimpArgs false
open Go.RowKit

/-- a symbol of signs that begins at i: its number, and where it ends. -/
def SignIs (l : List Int) (i : Nat) (w : World) (e : Ending) (w' : World) : Prop :=
  ∃ m x : Int, e = .returned (.tuple #[.int .i64 m, .int .i64 x]) ∧ Below w.heap.size w w' ∧
    (match signN (l.getD i 0) (decide (l.getD (i + 1) 0 = 61)) with | some (m', d) => m = m' ∧ x = ((i + d : Nat) : Int) | none => m = 0)

def oneB : List Int := [61, 35, 60, 95, 62, 95, 43, 45, 42, 47, 46, 94, 38, 126, 40, 41, 91, 93, 123, 125, 44, 59, 58]
theorem one_hit : ∀ k, k < 23 → oneB.getD k 0 ≠ 95 → signN (oneB.getD k 0) false = some ((k : Int) + 1, 1) := by decide
theorem one_no {b : Int} (h : ∀ k, k < 23 → ¬ (oneB.getD k 0 = b ∧ b ≠ 95)) : signN b false = none := by
  by_cases h95 : b = 95
  · subst h95; decide
  · have hm : b ∉ oneB := fun hm => by
      obtain ⟨k, hk, rfl⟩ := List.getElem_of_mem hm
      exact h k hk ⟨by rw [List.getD_eq_getElem?_getD, List.getElem?_eq_getElem hk]; rfl, h95⟩
    simp only [oneB, List.mem_cons, not_or, List.not_mem_nil] at hm
    have hs : b ∉ signs := by
      simp only [signs, List.mem_cons, not_or, List.not_mem_nil]
      refine ⟨?_, ?_, ?_, ?_, ?_, ?_, ?_, ?_, ?_, ?_, ?_, ?_, ?_, ?_, ?_, ?_, fun h => h⟩ <;> omega
    unfold signN
    rw [if_neg (by omega), if_neg (by omega), if_neg (by omega), if_neg hs]
theorem signN_one {b : Int} {c : Bool} (h : ¬ ((b = 60 ∨ b = 62 ∨ b = 58) ∧ c = true)) : signN b c = signN b false := by
  cases c with
  | false => rfl
  | true =>
    have h1 : ¬ (b = 60 ∨ b = 62 ∨ b = 58) := fun h' => h ⟨h', rfl⟩
    unfold signN
    rw [if_neg h1, if_neg h1]

def oneS : ByteArray := ⟨#[61, 35, 60, 95, 62, 95, 43, 45, 42, 47, 46, 94, 38, 126, 40, 41, 91, 93, 123, 125, 44, 59, 58]⟩
theorem oneS_at : ∀ k (h : k < oneS.size), (((oneS[k]'h).toNat : Nat) : Int) = oneB.getD k 0 := by decide

theorem size_alloc (w : World) (x : Obj) : (w.alloc x).heap.size = w.heap.size + 1 := by simp
theorem rat_q {w : World} {a : Option Addr} {c : Nat} {l : List Int} (h : RdI .u8 w a c l) (i : Nat) (x v : Int) (hx : x = (i : Int)) (hv : l.getD i 0 = v) (hi : x ≤ 9223372036854775807) (n : Nat) :
    Calls Try.prog 38 #[.slice a l.length c, .int .i64 x] (w.drewN n) fun e w' => e = .returned (.int .u8 v) ∧ ∃ m, w' = w.drewN m :=
  Calls.quiet_of_same ((rat_is (h.below (belN w n) (Nat.le_refl _)) i x v hx hv hi).mono fun _ _ ⟨p, q⟩ => ⟨p, q.symm⟩)

theorem SignIs.hit {l : List Int} {i : Nat} {w w' : World} {v v2 m : Int} {d : Nat} {x : Int} (hv : l.getD i 0 = v) (hv2 : l.getD (i + 1) 0 = v2) (hs : signN v (decide (v2 = 61)) = some (m, d)) (hx : x = ((i + d : Nat) : Int)) (hb : Below w.heap.size w w') : SignIs l i w (.returned (.tuple #[.int .i64 m, .int .i64 x])) w' :=
  ⟨m, x, rfl, hb, by rw [hv, hv2, hs]; exact ⟨rfl, hx⟩⟩
theorem SignIs.no {l : List Int} {i : Nat} {w w' : World} {v v2 : Int} {x : Int} (hv : l.getD i 0 = v) (hv2 : l.getD (i + 1) 0 = v2) (hs : signN v (decide (v2 = 61)) = none) (hb : Below w.heap.size w w') : SignIs l i w (.returned (.tuple #[.int .i64 0, .int .i64 x])) w' :=
  ⟨0, x, rfl, hb, by rw [hv, hv2, hs]⟩

set_option maxRecDepth 20000 in
set_option maxHeartbeats 8000000 in
theorem sign_ref {w : World} {a : Option Addr} {c : Nat} {l : List Int} (h : RdI .u8 w a c l) (hl : l.length ≤ 65535) (i : Nat) (hi : i < l.length) :
    Calls Try.prog 41 #[.slice a l.length c, .int .i64 i] w (SignIs l i w) := by
  have HR := Lib.hid (fun (w' : World) (k : Below w.heap.size w w') => h.below k (Nat.le_refl _))
  obtain ⟨b, o, rfl, hc⟩ := rd_cell h (by omega)
  have HC := Lib.hid (fun (w' : World) (k : Below w.heap.size w w') => hc w' k i hi)
  have n0 : (0 : Int) ≤ i := by omega
  have n1 : (i : Int) < l.length := by omega
  have n2 : (l.length : Int) ≤ 65535 := by omega
  obtain ⟨v, hv⟩ : ∃ v, l.getD i 0 = v := ⟨_, rfl⟩
  obtain ⟨v2, hv2⟩ : ∃ v2, l.getD (i + 1) 0 = v2 := ⟨_, rfl⟩
  have HV := Lib.hid hv
  have HV2 := Lib.hid hv2
  rw [hv] at HC
  clear h hl hi hc hv hv2
  go_enter Try.func41, Try.ntmps41
  go_wp2
  have HS2 := Lib.hid (((Sep.nil w).alloc #[.string ⟨#[60, 61]⟩, .string ⟨#[62, 61]⟩, .string ⟨#[58, 61]⟩] 9).alloc #[.int .i64 4, .int .i64 6, .int .i64 24] 3)
  have HB2 := Lib.hid (bel_then (bel1 w (.cells #[.string ⟨#[60, 61]⟩, .string ⟨#[62, 61]⟩, .string ⟨#[58, 61]⟩] 9)) (bel1 _ (.cells #[.int .i64 4, .int .i64 6, .int .i64 24] 3)))
  go_loopg [8] 3 (fun gk kv wr => ∃ k : Nat, kv = .int .i64 k ∧ k ≤ 3 ∧ 3 - k ≤ gk ∧ Sep wr [(w.heap.size + 1, #[.int .i64 4, .int .i64 6, .int .i64 24], 3), (w.heap.size, #[.string ⟨#[60, 61]⟩, .string ⟨#[62, 61]⟩, .string ⟨#[58, 61]⟩], 9)] ∧ (∀ j, j < k → ¬ (v = [60, 62, 58].getD j 0 ∧ v2 = 61)) ∧ Below w.heap.size w wr)
  case atStart => exact ⟨0, rfl, by decide, Nat.le_refl _, by have h := HS2.out; rw [size_alloc] at h; exact h, fun j hj => absurd hj (Nat.not_lt_zero j), HB2.out⟩
  case round =>
    obtain ⟨k, rfl, hk, hgk, hse, hno, hw⟩ := hrel
    have HSE := Lib.hid hse
    have HNO := Lib.hid hno
    have HW := Lib.hid hw
    have HG := Lib.hid hgk
    have HRR := Lib.hid (HR.out wr hw)
    have hb0 : wr.cell? ⟨b, o + i, none⟩ = some (.int .u8 v) := HC.out wr hw
    have HBB := Lib.hid (fun n => bel_then hw (belN wr n))
    have HSS := Lib.hid (fun n => hse.bel (belN wr n))
    clear hse hno hw hgk
    rcases (by omega : k = 0 ∨ k = 1 ∨ k = 2 ∨ k = 3) with rfl | rfl | rfl | rfl
    · have cs : wr.cell? ⟨w.heap.size, 0, none⟩ = some (.string ⟨#[60, 61]⟩) := ((HSE.out.at 1 rfl).cell 0).trans rfl
      have cn : wr.cell? ⟨w.heap.size + 1, 0, none⟩ = some (.int .i64 4) := ((HSE.out.at 0 rfl).cell 0).trans rfl
      by_cases hvX : v = 60
      · have gX : (v == ((((⟨#[60, 61]⟩ : ByteArray)[0]'(by decide)).toNat : Nat) : Int)) = true := by rw [hvX]; rfl
        have HVX := Lib.hid (HV.out.trans hvX)
        by_cases h61 : v2 = 61
        · subst h61
          clear hvX
          have HSI := Lib.hid (show signN 60 (decide ((61 : Int) = 61)) = some (4, 2) from rfl)
          go_wp2
          go_quiet ((go_at_call 38; exact rat_q HRR.out (i + 1) ((i : Int) + 1) 61 (by go_num) HV2.out (by omega) _))
          go_wp2
          (try simp only [Exit.inBlock, Exit.then])
          go_ret2
          exact SignIs.hit HVX.out HV2.out HSI.out (by go_num) (HBB.out _)
        · have g61 : (v2 == 61) = false := by simpa using h61
          have HNN : Hid (∀ j, j < 0 + 1 → ¬ (v = [60, 62, 58].getD j 0 ∧ v2 = 61)) := Lib.hid (fun j _ h => h61 h.2)
          clear h61 hvX
          go_wp2
          go_quiet ((go_at_call 38; exact rat_q HRR.out (i + 1) ((i : Int) + 1) v2 (by go_num) HV2.out (by omega) _))
          go_wp2
          go_roundg (gk - 1)
          case measure => have := HG.out; omega
          case rel => exact ⟨0 + 1, by go_num, by decide, by have := HG.out; omega, HSS.out _, HNN.out, HBB.out _⟩
      · have gX : (v == ((((⟨#[60, 61]⟩ : ByteArray)[0]'(by decide)).toNat : Nat) : Int)) = false := by
          have h0 : (v == 60) = false := by simpa using hvX
          exact h0
        have HNN : Hid (∀ j, j < 0 + 1 → ¬ (v = [60, 62, 58].getD j 0 ∧ v2 = 61)) := Lib.hid (fun j hj h => by
          rcases Nat.lt_or_ge j 0 with h' | h'
          · exact HNO.out j h' h
          · obtain rfl : j = 0 := by omega
            exact hvX h.1)
        clear hvX
        go_wp2
        go_quiet (fail)
        go_wp2
        go_roundg (gk - 1)
        case measure => have := HG.out; omega
        case rel => exact ⟨0 + 1, by go_num, by decide, by have := HG.out; omega, HSS.out _, HNN.out, HBB.out _⟩
    · have cs : wr.cell? ⟨w.heap.size, 1, none⟩ = some (.string ⟨#[62, 61]⟩) := ((HSE.out.at 1 rfl).cell 1).trans rfl
      have cn : wr.cell? ⟨w.heap.size + 1, 1, none⟩ = some (.int .i64 6) := ((HSE.out.at 0 rfl).cell 1).trans rfl
      by_cases hvX : v = 62
      · have gX : (v == ((((⟨#[62, 61]⟩ : ByteArray)[0]'(by decide)).toNat : Nat) : Int)) = true := by rw [hvX]; rfl
        have HVX := Lib.hid (HV.out.trans hvX)
        by_cases h61 : v2 = 61
        · subst h61
          clear hvX
          have HSI := Lib.hid (show signN 62 (decide ((61 : Int) = 61)) = some (6, 2) from rfl)
          go_wp2
          go_quiet ((go_at_call 38; exact rat_q HRR.out (i + 1) ((i : Int) + 1) 61 (by go_num) HV2.out (by omega) _))
          go_wp2
          (try simp only [Exit.inBlock, Exit.then])
          go_ret2
          exact SignIs.hit HVX.out HV2.out HSI.out (by go_num) (HBB.out _)
        · have g61 : (v2 == 61) = false := by simpa using h61
          have HNN : Hid (∀ j, j < 1 + 1 → ¬ (v = [60, 62, 58].getD j 0 ∧ v2 = 61)) := Lib.hid (fun j _ h => h61 h.2)
          clear h61 hvX
          go_wp2
          go_quiet ((go_at_call 38; exact rat_q HRR.out (i + 1) ((i : Int) + 1) v2 (by go_num) HV2.out (by omega) _))
          go_wp2
          go_roundg (gk - 1)
          case measure => have := HG.out; omega
          case rel => exact ⟨1 + 1, by go_num, by decide, by have := HG.out; omega, HSS.out _, HNN.out, HBB.out _⟩
      · have gX : (v == ((((⟨#[62, 61]⟩ : ByteArray)[0]'(by decide)).toNat : Nat) : Int)) = false := by
          have h0 : (v == 62) = false := by simpa using hvX
          exact h0
        have HNN : Hid (∀ j, j < 1 + 1 → ¬ (v = [60, 62, 58].getD j 0 ∧ v2 = 61)) := Lib.hid (fun j hj h => by
          rcases Nat.lt_or_ge j 1 with h' | h'
          · exact HNO.out j h' h
          · obtain rfl : j = 1 := by omega
            exact hvX h.1)
        clear hvX
        go_wp2
        go_quiet (fail)
        go_wp2
        go_roundg (gk - 1)
        case measure => have := HG.out; omega
        case rel => exact ⟨1 + 1, by go_num, by decide, by have := HG.out; omega, HSS.out _, HNN.out, HBB.out _⟩
    · have cs : wr.cell? ⟨w.heap.size, 2, none⟩ = some (.string ⟨#[58, 61]⟩) := ((HSE.out.at 1 rfl).cell 2).trans rfl
      have cn : wr.cell? ⟨w.heap.size + 1, 2, none⟩ = some (.int .i64 24) := ((HSE.out.at 0 rfl).cell 2).trans rfl
      by_cases hvX : v = 58
      · have gX : (v == ((((⟨#[58, 61]⟩ : ByteArray)[0]'(by decide)).toNat : Nat) : Int)) = true := by rw [hvX]; rfl
        have HVX := Lib.hid (HV.out.trans hvX)
        by_cases h61 : v2 = 61
        · subst h61
          clear hvX
          have HSI := Lib.hid (show signN 58 (decide ((61 : Int) = 61)) = some (24, 2) from rfl)
          go_wp2
          go_quiet ((go_at_call 38; exact rat_q HRR.out (i + 1) ((i : Int) + 1) 61 (by go_num) HV2.out (by omega) _))
          go_wp2
          (try simp only [Exit.inBlock, Exit.then])
          go_ret2
          exact SignIs.hit HVX.out HV2.out HSI.out (by go_num) (HBB.out _)
        · have g61 : (v2 == 61) = false := by simpa using h61
          have HNN : Hid (∀ j, j < 2 + 1 → ¬ (v = [60, 62, 58].getD j 0 ∧ v2 = 61)) := Lib.hid (fun j _ h => h61 h.2)
          clear h61 hvX
          go_wp2
          go_quiet ((go_at_call 38; exact rat_q HRR.out (i + 1) ((i : Int) + 1) v2 (by go_num) HV2.out (by omega) _))
          go_wp2
          go_roundg (gk - 1)
          case measure => have := HG.out; omega
          case rel => exact ⟨2 + 1, by go_num, by decide, by have := HG.out; omega, HSS.out _, HNN.out, HBB.out _⟩
      · have gX : (v == ((((⟨#[58, 61]⟩ : ByteArray)[0]'(by decide)).toNat : Nat) : Int)) = false := by
          have h0 : (v == 58) = false := by simpa using hvX
          exact h0
        have HNN : Hid (∀ j, j < 2 + 1 → ¬ (v = [60, 62, 58].getD j 0 ∧ v2 = 61)) := Lib.hid (fun j hj h => by
          rcases Nat.lt_or_ge j 2 with h' | h'
          · exact HNO.out j h' h
          · obtain rfl : j = 2 := by omega
            exact hvX h.1)
        clear hvX
        go_wp2
        go_quiet (fail)
        go_wp2
        go_roundg (gk - 1)
        case measure => have := HG.out; omega
        case rel => exact ⟨2 + 1, by go_num, by decide, by have := HG.out; omega, HSS.out _, HNN.out, HBB.out _⟩
    · have hn3 : ¬ ((v = 60 ∨ v = 62 ∨ v = 58) ∧ decide (v2 = 61) = true) := fun h => by
        have h2 : v2 = 61 := by simpa using h.2
        rcases h.1 with h1 | h1 | h1
        · exact HNO.out 0 (by decide) ⟨h1, h2⟩
        · exact HNO.out 1 (by decide) ⟨h1, h2⟩
        · exact HNO.out 2 (by decide) ⟨h1, h2⟩
      have HSI := Lib.hid (signN_one hn3)
      clear hn3
      obtain ⟨wo, rfl⟩ : ∃ wo, wo = wr := ⟨_, rfl⟩
      obtain ⟨go, rfl⟩ : ∃ go, go = gk := ⟨_, rfl⟩
      go_wp2
      obtain ⟨s, hs0⟩ : ∃ s : ByteArray, s = ⟨#[61, 35, 60, 95, 62, 95, 43, 45, 42, 47, 46, 94, 38, 126, 40, 41, 91, 93, 123, 125, 44, 59, 58]⟩ := ⟨_, rfl⟩
      rw [← hs0]
      have HSQ : Hid (s = oneS) := Lib.hid hs0
      clear hs0
      go_loopg [10] 23 (fun gk kv wq => ∃ (k : Nat), kv = .int .i64 k ∧ k ≤ 23 ∧ 23 - k ≤ gk ∧ (∀ j, j < k → ¬ (oneB.getD j 0 = v ∧ v ≠ 95)) ∧ Below w.heap.size w wq)
      case atStart => exact ⟨0, rfl, by decide, Nat.le_refl _, fun j hj => absurd hj (Nat.not_lt_zero j), HW.out⟩
      case round =>
        obtain ⟨k, rfl, hk, hgj, hno, hwq⟩ := hrel
        have hs := HSQ.out
        have HNO := Lib.hid hno
        have HWQ := Lib.hid hwq
        have HGJ := Lib.hid hgj
        have hb1 : wr.cell? ⟨b, o + i, none⟩ = some (.int .u8 v) := HC.out wr hwq
        have HBB := Lib.hid (fun n => bel_then hwq (belN wr n))
        have hsz : s.size = 23 := by rw [hs]; rfl
        have q0 : (0 : Int) ≤ k := by omega
        have q1 : (k : Int) ≤ 23 := by omega
        have z1 : (23 : Int) ≤ s.size := by omega
        have z2 : (s.size : Int) ≤ 23 := by omega
        by_cases hkl : k < 23
        · have hks : k < s.size := by omega
          have hat : (((s[k]'hks).toNat : Nat) : Int) = oneB.getD k 0 := by subst hs; exact oneS_at k hks
          have HAT := Lib.hid hat
          have HKL := Lib.hid hkl
          have k3 : (k : Int) < s.size := by omega
          clear hwq hgj hno hs hsz
          by_cases hhit : oneB.getD k 0 = v
          · have t1 : ((((s[k]'hks).toNat : Nat) : Int) == v) = true := by rw [HAT.out]; simpa using hhit
            by_cases h95 : v = 95
            · subst h95
              have HNN : Hid (∀ j, j < k + 1 → ¬ (oneB.getD j 0 = 95 ∧ (95 : Int) ≠ 95)) := Lib.hid (fun j _ h => h.2 rfl)
              clear hat hhit hkl
              go_wp2
              go_quiet (fail)
              go_wp2
              go_roundg (gk - 1)
              case measure => have := HGJ.out; omega
              case rel => exact ⟨k + 1, by go_num, HKL.out, by have := HGJ.out; omega, HNN.out, HBB.out _⟩
            · have t2 : (v != 95) = true := by simpa using h95
              have HH : Hid (signN v (decide (v2 = 61)) = some ((k : Int) + 1, 1)) := Lib.hid (by rw [HSI.out, ← hhit]; exact one_hit k HKL.out (by rw [hhit]; exact h95))
              clear hat hhit hkl h95
              go_wp2
              go_quiet (fail)
              go_wp2
              (try simp only [Exit.inBlock, Exit.then])
              go_ret2
              exact SignIs.hit HV.out HV2.out HH.out (by go_num) (HBB.out _)
          · have t1 : ((((s[k]'hks).toNat : Nat) : Int) == v) = false := by rw [HAT.out]; simpa using hhit
            have HNN : Hid (∀ j, j < k + 1 → ¬ (oneB.getD j 0 = v ∧ v ≠ 95)) := Lib.hid (fun j hj h => by
              rcases Nat.lt_or_ge j k with h' | h'
              · exact HNO.out j h' h
              · obtain rfl : j = k := by omega
                exact hhit h.1)
            clear hat hhit hkl
            go_wp2
            go_quiet (fail)
            go_wp2
            go_roundg (gk - 1)
            case measure => have := HGJ.out; omega
            case rel => exact ⟨k + 1, by go_num, HKL.out, by have := HGJ.out; omega, HNN.out, HBB.out _⟩
        · have hk23 : k = 23 := by omega
          subst hk23
          have HH : Hid (signN v (decide (v2 = 61)) = none) := Lib.hid (by rw [HSI.out]; exact one_no hno)
          clear hwq hgj hno hs hsz
          go_wp2
          (try simp only [Exit.inBlock, Exit.then])
          go_ret2
          exact SignIs.no HV.out HV2.out HH.out HWQ.out

end Go.Proofs.Ytdgiijidgjagbaa
