/- Contract: the law's closure 'open': false for what may be. -/
import Derived.Test.YtfnibpkojhgflaaFaceKnown
namespace Go.Proofs.Ytfnibpkojhgflaa
set_option linter.unusedVariables false
set_option linter.unusedSimpArgs false
open Go.RowKit

set_option maxRecDepth 100000 in
set_option maxHeartbeats 2000000 in
theorem openfn_walk (f : Fc) (r : Rf) (g : Nat) (w : World) (h : f.Rd w) (hA : At w g f.cells 26) (hn2 : f.types.l.length ≤ 1000) (hr : closedB f.d.env r = true ∨ noRef r = true) :
    Calls Try.prog 12 #[r.val, .pointer (some ⟨g, 0, none⟩)] w fun e' w' => e' = .returned (.bool false) ∧ Below w.heap.size w w' := by
  obtain ⟨b, o, hat, hcell⟩ := h.types.at'
  have HEL := Lib.hid (env_len f)
  have HEG := Lib.hid (fun (j : Nat) (x : FT) (hx : f.types.l[j]? = some x) => env_get f hx)
  have HAT := Lib.hid hat
  have HC := Lib.hid hcell
  have HFO := Lib.hid h.types.all
  clear h hat hcell
  obtain ⟨e, he⟩ : ∃ e, e = f.d.env := ⟨_, rfl⟩
  rw [← he] at HEL HEG hr
  clear he
  obtain ⟨nm, ⟨a1, c1, l1⟩, ⟨a2, c2, l2⟩, ⟨a3, c3, l3⟩⟩ := f
  obtain ⟨m, i⟩ := r
  show Calls _ _ #[.agg #[.int .i64 m, .int .i64 i], .pointer (some ⟨g, 0, none⟩)] w _
  dsimp only at hn2 HAT HC HEL HEG HFO
  have hb : i ≤ 255 ∧ 0 ≤ i ∧ (m = 0 → 16 ≤ i → i < 16 + l2.length ∧ closedB e ⟨0, i⟩ = true) := by
    rcases hr with hr | hr
    · have h2 := hr
      unfold closedB at h2
      rw [Bool.and_eq_true] at h2
      have h3 := h2.1
      unfold refB at h3
      have h3 := of_decide_eq_true h3
      unfold refP at h3
      have h4 := HEL.out
      dsimp only at h3
      refine ⟨by omega, by omega, fun e1 e2 => ⟨by omega, by rw [e1] at hr; exact hr⟩⟩
    · unfold noRef at hr
      have hr := of_decide_eq_true hr
      have h1 : m = 0 := hr.1
      have h2 : i = 0 := hr.2
      exact ⟨by omega, by omega, fun _ h => by omega⟩
  have HA := Lib.hid (show At w g #[.string nm, .slice a1 l1.length c1, .slice a2 l2.length c2, .slice a3 l3.length c3] 26 from hA)
  have HBW := Lib.hid (bel1 w (.cells #[.int .i64 m, .int .i64 i] 30))
  have g2 := ((HA.out.bel HBW.out).cell 2).trans (show _ = some (.slice a2 l2.length c2) from rfl)
  obtain ⟨k1, k2, k3⟩ := hb
  clear hr hA
  by_cases hm : m = 0
  · have e1 : (m == 0) = true := by rw [hm]; rfl
    have k3 := k3 hm
    have HM := Lib.hid hm
    clear hm
    by_cases hi : 16 ≤ i
    · obtain ⟨k4, k5⟩ := k3 hi
      obtain ⟨j, hji⟩ : ∃ j : Nat, i - 16 = j := ⟨(i - 16).toNat, by omega⟩
      obtain rfl : i = j + 16 := by omega
      have hj : j < l2.length := by omega
      obtain ⟨x, hx⟩ := get_lt hj
      have hf : ¬ x.form = 4 := by
        have h1 : refB e ⟨0, j + 16⟩ = true := by unfold closedB at k5; rw [Bool.and_eq_true] at k5; exact k5.1
        have h2 := closed_own h1 (HEG.out j x hx)
        rw [k5] at h2
        intro h; rw [h] at h2; cases h2
      have e2 : (x.form == 4) = false := by rw [beq_eq_false_iff_ne]; exact hf
      obtain ⟨rfl, hlb⟩ := HAT.out (by omega)
      have hc := (HBW.out.cell (p := ⟨b, o + j * 6, none⟩) hlb).trans (rows_form HC.out hx)
      obtain ⟨fo, hfo⟩ : ∃ fo, fo = x.form := ⟨_, rfl⟩
      rw [← hfo] at e2 hc
      clear hfo hf hx k5 k3 hji k4 hi hlb HEG HFO
      go_enter Try.func12, Try.ntmps12
      go_wp2
      go_ret
      exact ⟨rfl, HBW.out⟩
    · have hi : i - 16 < 0 := by omega
      clear k3 HEG HFO
      go_enter Try.func12, Try.ntmps12
      go_wp2
      go_ret
      exact ⟨rfl, HBW.out⟩
  · have e1 : (m == 0) = false := by rw [beq_eq_false_iff_ne]; exact hm
    clear hm k3 HEG HFO
    go_enter Try.func12, Try.ntmps12
    go_wp2
    go_ret
    exact ⟨rfl, HBW.out⟩
end Go.Proofs.Ytfnibpkojhgflaa
