/- Contracts: Same, the reference's Key, Join and Much, the chapter's known rows. -/
import Derived.Test.YtflmapokljiljaaKeyWalks
import Derived.BigQuiet
namespace Go.Proofs.Ytflmapokljiljaa
open Go.RowKit

theorem of_one (l : List Int) : Key.of [l].flatten = Key.of l := by simp

theorem of_any1 (a : Option Addr) (l : List Int) (c : Nat) (w : World) (h : RdI .u8 w a c l) :
    Calls Try.prog 10 #[.slice (some ⟨w.heap.size, 0, none⟩) 1 1] (w.alloc (.cells #[.slice a l.length c] 25)) fun e w' => e = .returned (.int .u32 (Key.of l)) ∧ Below w.heap.size w w' := by
  refine (of_any (some ⟨w.heap.size, 0, none⟩) [l] 1 _ (RdII.one _ h)).mono ?_
  rintro e w' ⟨rfl, hb⟩
  exact ⟨ret_int (by rw [of_one]), ((Below.refl _ w).alloc (Nat.le_refl _) _).trans (hb.mono (by simp))⟩

set_option maxHeartbeats 400000 in
theorem same_any (a b : Option Addr) (la lb : List Int) (ca cb : Nat) (w : World) (ha : RdI .u8 w a ca la) (hb : RdI .u8 w b cb lb) :
    Calls Try.prog 14 #[.slice a la.length ca, .slice b lb.length cb] w fun e w' => e = .returned (.bool (Key.of la == Key.of lb)) ∧ Below w.heap.size w w' := by
  have HA := Lib.hid ha; clear ha
  have HB := Lib.hid hb; clear hb
  go_enter Try.func14, Try.ntmps14
  go_wp2_with fail
  refine (of_any1 _ _ _ _ HA.out).mono ?_
  rintro e w1 ⟨rfl, hb1⟩
  go_wp2_with fail
  refine (of_any1 _ _ _ _ (HB.out.below hb1 (Nat.le_refl _))).mono ?_
  rintro e w2 ⟨rfl, hb2⟩
  go_wp2
  go_ret
  exact ⟨rfl, hb1.trans (hb2.mono hb1.size)⟩

theorem refkey_step (l : List Int) (i : Nat) (h : i < l.length) :
    (Key.sum (l.drop (i + 1)) + (l.getD i 0 + 1) * Key.pow (l.length - (i + 1))) % 4294967296 = Key.sum (l.drop i) ∧ Key.pow (l.length - (i + 1)) * 16777619 % 4294967296 = Key.pow (l.length - i) := by
  have e : l.drop i = l.getD i 0 :: l.drop (i + 1) := by
    rw [List.drop_eq_getElem_cons h, List.getD_eq_getElem?_getD, List.getElem?_eq_getElem h]; rfl
  constructor
  · rw [e]; simp only [Key.sum, List.length_drop]
  · rw [show l.length - i = (l.length - (i + 1)) + 1 from by omega]; rfl

set_option maxHeartbeats 400000 in
theorem refkey_any (a : Option Addr) (l : List Int) (cap : Nat) (w : World) (hr : RdI .u8 w a cap l) :
    Calls Try.prog 11 #[.slice a l.length cap] w fun e w' => e = .returned (.int .u32 (Key.of l)) ∧ w = w' := by
  have hlen := hr.len
  obtain ⟨b, o, hat, hcell⟩ := hr.cells
  have HB := Lib.hid hr.u8; clear hr
  have HAt := Lib.hid hat; clear hat
  have HC := Lib.hid hcell; clear hcell
  go_enter Try.func11, Try.ntmps11
  go_wp2_with fail

  go_loop [3, 4, 5] (fun s p v => ∃ i : Nat, i ≤ l.length ∧ v = .int .i64 (i - 1) ∧ s = .int .u64 (Key.sum (l.drop i)) ∧ p = .int .u64 (Key.pow (l.length - i)))
    (fun _ _ v => (intOf v + 1).toNat)
  case atStart => exact ⟨l.length, Nat.le_refl _, rfl, by simp [Key.sum], by simp [Key.pow]⟩
  case round =>
    obtain ⟨i, hi, rfl, rfl, rfl⟩ := hrel
    have hs := Key.sum_bd (l.drop i)
    have hp := Key.pow_bd (l.length - i)
    obtain ⟨S, hS⟩ : ∃ S, S = Key.sum (l.drop i) := ⟨_, rfl⟩
    obtain ⟨Q, hQ⟩ : ∃ Q, Q = Key.pow (l.length - i) := ⟨_, rfl⟩
    rw [← hS] at hs; rw [← hQ] at hp
    cases i with
    | zero =>
      rw [← hS, ← hQ]
      have HS := Lib.hid hS; clear hS
      have HQ := Lib.hid hQ; clear hQ
      go_wp2
      go_ret
      refine ⟨ret_int ?_, rfl⟩
      rw [HS.out, HQ.out, Key.of, Key.on_sum l Key.start (by decide) (by decide), List.drop_zero, Nat.sub_zero]
      rfl
    | succ i =>
      obtain ⟨rfl, hb⟩ := HAt.out (by omega)
      have hx := HB.out i (by omega)
      have hc := HC.out i (by omega)
      have hst := refkey_step l i (by omega)
      obtain ⟨x, hxe⟩ : ∃ x, x = l.getD i 0 := ⟨_, rfl⟩
      rw [← hS, ← hQ]
      rw [← hS, ← hQ] at hst
      rw [← hxe] at hc hx hst
      have HS := Lib.hid hS; clear hS
      have HQ := Lib.hid hQ; clear hQ
      have HST := Lib.hid hst; clear hst
      clear hxe
      have hxq : 0 ≤ (x + 1) * Q ∧ (x + 1) * Q ≤ 256 * 4294967296 := ⟨Int.mul_nonneg (by omega) hp.1, Int.mul_le_mul (by omega) (by omega) hp.1 (by omega)⟩
      go_wp2
      go_round
      case rel => exact ⟨i, by omega, rfl, by rw [HST.out.1], by rw [HST.out.2]⟩
      case measure => simp [intOf]

theorem et_u8 : ET Try.prog 25 5 (.int .u8 0) 1 1 := ET.of Try.underlying25 (by kernel_rfl) rfl (by decide)

/-- a slice of bytes that the call has made. -/
def RetBytes (w : World) (l : List Int) (e : Ending) (w' : World) : Prop := ∃ a c, e = .returned (.slice a l.length c) ∧ RdI .u8 w' a c l ∧ Below w.heap.size w w'

theorem take_flat' (ls : List (List Int)) (i : Nat) (h : i < ls.length) : (ls.take (i + 1)).flatten = (ls.take i).flatten ++ ls.getD i [] := by
  rw [List.take_succ_eq_append_getElem h, List.flatten_append, List.getD_eq_getElem?_getD, List.getElem?_eq_getElem h]; simp

theorem len_take_flat (ls : List (List Int)) (i : Nat) : (ls.take i).flatten.length ≤ ls.flatten.length := by
  conv => rhs; rw [← List.take_append_drop i ls]
  rw [List.flatten_append, List.length_append]; omega

set_option maxHeartbeats 400000 in
theorem join_any (a : Option Addr) (ls : List (List Int)) (cap : Nat) (w : World) (hr : RdII .u8 w a cap ls) (hsum : ls.flatten.length ≤ 140737488355328) :
    Calls Try.prog 9 #[.slice a ls.length cap] w (RetBytes w ls.flatten) := by
  have hlen := hr.len
  obtain ⟨b, o, hat, hcell⟩ := hr.at'
  clear hr
  have HAt := Lib.hid hat; clear hat
  have HC := Lib.hid hcell; clear hcell
  go_enter Try.func9, Try.ntmps9
  go_wp2
  go_loopw [3, 4] (fun v i wr => ∃ k : Nat, k ≤ ls.length ∧ i = .int .i64 k ∧ wr.ownsRow w.heap.size 5 1 v (ls.take k).flatten.length ((ls.take k).flatten.map (Value.int .u8)) ∧ (∀ x ∈ (ls.take k).flatten, IntKind.u8.min ≤ x ∧ x ≤ IntKind.u8.max) ∧ Below w.heap.size w wr)
    (fun _ i _ => ls.length - (intOf i).toNat)
  case atStart => exact ⟨0, Nat.zero_le _, rfl, World.ownsRow_nil _ _ _ _, (fun x hx => by simp at hx), Below.refl _ _⟩
  case round =>
    obtain ⟨k, hk, rfl, hown, hbd, hbel⟩ := hrel
    by_cases hlt : k < ls.length
    · obtain ⟨rfl, hb⟩ := HAt.out (by omega)
      obtain ⟨x, c, hc0, hrx⟩ := HC.out k hlt
      have hc : wr.cell? ⟨b, o + k, none⟩ = some (.slice x (ls.getD k []).length c) := (hbel.cell (p := ⟨b, o + k, none⟩) hb).trans hc0
      have hs := take_flat' ls k hlt
      have hs2 := len_take_flat ls (k + 1)
      have hs3 : (ls.take (k + 1)).flatten.length = (ls.take k).flatten.length + (ls.getD k []).length := by rw [hs, List.length_append]
      have HS := Lib.hid hs
      have HS3 := Lib.hid hs3
      have hsm : (ls.take k).flatten.length + (ls.getD k []).length ≤ 140737488355328 := by omega
      have hrx' := Lib.hid (hrx.below hbel (Nat.le_refl _))
      clear hc0 hrx hs hs2 hs3
      obtain ⟨m, hm⟩ : ∃ m, m = ls.getD k [] := ⟨_, rfl⟩
      rw [← hm] at hc HS HS3 hsm hrx'
      clear hm
      have HOW := Lib.hid hown; clear hown
      have HBD := Lib.hid hbd; clear hbd
      go_wp2_with (at_builtin; refine append_rd rfl _ _ et_u8 rfl w.heap.size rfl HOW.out rfl hrx'.out.row (by simp) (ints_one _ _) (by omega) (by omega) hbel.size ?_; intro v' w1 hown1 hgrow)
      go_roundw
      case rel =>
        refine ⟨k + 1, by omega, by go_num, ?_, ?_, hbel.grown hgrow hbel.size (fun g hg => (HOW.out.lt g hg).1)⟩
        · rw [HS3.out, HS.out, List.map_append]; exact hown1
        · rw [HS.out]
          intro y hy
          rcases List.mem_append.1 hy with h | h
          · exact HBD.out y h
          · exact hrx'.out.bd y h
      case measure => simp [intOf]; omega
    · rw [List.take_of_length_le (by omega)] at hown hbd
      obtain ⟨a', c', rfl, hrd⟩ := RdI.own hown hbd
      clear hown
      go_wp2
      go_ret
      exact ⟨_, _, rfl, hrd, hbel⟩

end Go.Proofs.Ytflmapokljiljaa
