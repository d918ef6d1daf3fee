/- Contracts: the reference's Much, the chapter's known rows. -/
import Derived.Test.YtflmapokljiljaaKeyMore
namespace Go.Proofs.Ytflmapokljiljaa
open Go.RowKit

def much (ls : List (List Int)) : Bool := decide (3000 < ls.length ∨ 3000 < ls.flatten.length)

theorem len_take_succ (ls : List (List Int)) (i : Nat) (h : i < ls.length) : (ls.take (i + 1)).flatten.length = (ls.take i).flatten.length + (ls.getD i []).length := by
  rw [take_flat' ls i h, List.length_append]

set_option maxHeartbeats 400000 in
theorem much_any (a : Option Addr) (ls : List (List Int)) (cap : Nat) (w : World) (hr : RdII .u8 w a cap ls) :
    Calls Try.prog 7 #[.slice a ls.length cap] w fun e w' => e = .returned (.bool (much ls)) ∧ w = w' := by
  have hlen := hr.len
  obtain ⟨b, o, hat, hcell⟩ := hr.at'
  clear hr
  have HAt := Lib.hid hat; clear hat
  have HC := Lib.hid hcell; clear hcell
  go_enter Try.func7, Try.ntmps7
  go_wp2
  go_loop [3, 4] (fun n i => ∃ k N : Nat, k ≤ ls.length ∧ k ≤ 3001 ∧ i = .int .i64 k ∧ n = .int .i64 N ∧ N = (ls.take k).flatten.length ∧ N ≤ 3000)
    (fun _ i => ls.length - (intOf i).toNat)
  case atStart => exact ⟨0, 0, Nat.zero_le _, by omega, rfl, rfl, rfl, by omega⟩
  case round =>
    obtain ⟨k, N, hk, hk1, rfl, rfl, hN, hN1⟩ := hrel
    by_cases hlt : k < ls.length
    · obtain ⟨rfl, hb⟩ := HAt.out (by omega)
      obtain ⟨x, c, hc, hrx⟩ := HC.out k hlt
      have hs := len_take_succ ls k hlt
      have hs2 := len_take_flat ls (k + 1)
      have hmc := hrx.len
      obtain ⟨m, hm⟩ : ∃ m, m = (ls.getD k []).length := ⟨_, rfl⟩
      rw [← hm] at hc hs hmc
      have HN := Lib.hid hN
      have HM := Lib.hid hm
      have HX := Lib.hid hrx
      have HS := Lib.hid hs
      have HS2 := Lib.hid hs2
      clear hN hm hrx hs hs2
      by_cases h3 : k ≤ 3000
      · by_cases hsum : N + m ≤ 3000
        · go_wp2
          go_round
          case rel => exact ⟨k + 1, N + m, by omega, by omega, by go_num, by go_num, by rw [HS.out, ← HN.out], by omega⟩
          case measure => simp [intOf]; omega
        · go_wp2
          all_goals
            go_ret
            refine ⟨ret_bool ?_, rfl⟩
            have h9 := HN.out
            have h8 := HS.out
            have h7 := HS2.out
            unfold much
            simp only [decide_eq_true_eq, Bool.true_eq]
            omega
      · go_wp2
        go_ret
        exact ⟨ret_bool (by rw [Bool.eq_iff_iff]; unfold much; simp only [decide_eq_true_eq]; omega), rfl⟩
    · have HN := Lib.hid hN
      clear hN
      go_wp2
      go_ret
      refine ⟨ret_bool ?_, rfl⟩
      have h9 := HN.out
      rw [List.take_of_length_le (by omega)] at h9
      unfold much
      rw [Bool.eq_iff_iff]
      simp only [decide_eq_true_eq]
      omega

end Go.Proofs.Ytflmapokljiljaa
