/- Contract: imports that may be, in the reference. -/
import Derived.Test.YtfnibpkojhgflaaObjData
namespace Go.Proofs.Ytfnibpkojhgflaa
set_option linter.unusedVariables false
set_option linter.unusedSimpArgs false
open Go.RowKit

theorem drewN2 (w : World) (a b : Nat) : (w.drewN a).drewN b = w.drewN (a + b) := by unfold World.drewN; simp [Nat.add_assoc]
set_option maxHeartbeats 1000000 in
theorem refMayImports_any (s : ByteArray) (l : Sl Imp) (w : World) (hs : s.size ≤ maxLen) (hl : Rows impD w l) :
    Calls Try.prog 28 #[.string s, .slice l.a l.l.length l.c] w fun e w' => e = .returned (.bool (mayImps s l.l)) ∧ ∃ n, w' = w.drewN n := by
  have hlen := hl.len
  obtain ⟨b, o, hat, hcell⟩ := hl.at'
  have HR := Lib.hid hl.all; clear hl
  have HAt := Lib.hid hat; clear hat
  have HC := Lib.hid hcell; clear hcell
  have HS := Lib.hid hs; clear hs
  obtain ⟨la, lc, l⟩ := l
  dsimp only at HAt HC HR hlen
  go_enter Try.func28, Try.ntmps28
  go_wp2_with fail
  go_loopw [5, 6] (fun i j wr => ∃ k n : Nat, k ≤ l.length ∧ i = .int .i64 k ∧ ImpTo s l k ∧ wr = w.drewN n) (fun i _ _ => l.length - (intOf i).toNat)
  case atStart => exact ⟨0, 0, Nat.zero_le _, rfl, ImpTo.start s l, rfl⟩
  case round =>
    obtain ⟨k, n, hk, rfl, hI, rfl⟩ := hrel
    have HI := Lib.hid hI; clear hI
    by_cases hlt : k < l.length
    · obtain ⟨x, hx⟩ := get_lt hlt
      obtain ⟨rfl, hb⟩ := HAt.out (by omega)
      have hc := (imp_cells HC.out hx).1
      have hok := (HR.out x (List.mem_of_getElem? hx)).1
      have HX := Lib.hid hx; clear hx
      obtain ⟨xn, xk⟩ := x
      dsimp only at hc hok
      have HO := Lib.hid hok; clear hok
      by_cases he : xn = s
      · subst he
        go_wp2_with fail
        refine (refMayName_any _ _ HO.out).mono ?_
        rintro e w' ⟨rfl, rfl⟩
        go_wp2_with fail
        all_goals (go_ret; exact ⟨ret_bool (HI.out.bad2 HX.out rfl).symm, _, rfl⟩)
      · have hq := str_other he
        go_wp2_with fail
        refine (refMayName_any _ _ HO.out).mono ?_
        rintro e w' ⟨rfl, rfl⟩
        cases hm : mayName xn with
        | false =>
          go_wp2_with fail
          go_ret
          exact ⟨ret_bool (HI.out.bad1 HX.out hm).symm, _, rfl⟩
        | true =>
          have HM := Lib.hid hm; clear hm
          go_wp2_with fail
          go_loopw [6] (fun j wr => ∃ m n : Nat, m ≤ k ∧ j = .int .i64 m ∧ (∀ i y, i < m → l[i]? = some y → y.name ≠ xn) ∧ wr = w.drewN n) (fun j _ => k - (intOf j).toNat)
          case atStart => exact ⟨0, n, Nat.zero_le _, rfl, fun i y h => by omega, rfl⟩
          case round =>
            obtain ⟨m, n, hm, rfl, hJ, rfl⟩ := hrel
            have HJ := Lib.hid hJ; clear hJ
            by_cases hlm : m < k
            · obtain ⟨y, hy⟩ := get_lt (l := l) (i := m) (by omega)
              have hc2 := (imp_cells HC.out hy).1
              have HY := Lib.hid hy; clear hy
              obtain ⟨yn, yk⟩ := y
              dsimp only at hc2
              by_cases hyn : yn = xn
              · subst hyn
                go_wp2_with fail
                go_quiet (fail)
                go_wp2_with fail
                go_ret
                exact ⟨ret_bool (HI.out.bad3 HX.out hlm HY.out rfl).symm, _, drewN2 _ _ _⟩
              · have hq2 := str_other hyn
                go_wp2_with fail
                go_quiet (fail)
                go_wp2_with fail
                go_roundw
                case rel =>
                  refine ⟨m + 1, _, by omega, by go_num, fun i z hi hz => ?_, rfl⟩
                  rcases Nat.lt_or_ge i m with h | h
                  · exact HJ.out i z h hz
                  · obtain rfl : i = m := by omega
                    rw [HY.out] at hz; cases hz; exact hyn
                case measure => simp [intOf]; omega
            · obtain rfl : m = k := by omega
              go_wp2_with fail
              go_roundw
              case rel => exact ⟨m + 1, _, by omega, by go_num, HI.out.next HX.out HM.out he HJ.out, rfl⟩
              case measure => simp [intOf]; omega
    · have HD := Lib.hid (HI.out.done (by omega))
      go_wp2_with fail
      refine (refMayName_any _ _ HS.out).mono ?_
      rintro e w' ⟨rfl, rfl⟩
      cases hm : mayName s with
      | false =>
        go_wp2_with fail
        go_ret
        exact ⟨ret_bool (by rw [HD.out, hm]; rfl), _, rfl⟩
      | true =>
        have HM := Lib.hid hm
        clear hm
        go_wp2_with fail
        go_ret
        exact ⟨ret_bool (by rw [HD.out, HM.out, Bool.true_and]; exact decide_eq_decide.2 (by omega)), _, rfl⟩
end Go.Proofs.Ytfnibpkojhgflaa
