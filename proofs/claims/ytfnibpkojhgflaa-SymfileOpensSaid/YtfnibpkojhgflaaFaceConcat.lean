/- Contracts: a number's bytes, a name's, a reference's; slices.Grow of nothing, slices.Concat of bytes; the closure that adds bytes. -/
import Derived.Test.YtfnibpkojhgflaaObjRefW
import Derived.Test.YtfnibpkojhgflaaFaceData
import Derived.Test.YtfnibpkojhgflaaSetMap
import Derived.Test.YtfnibpkojhgflaaRowLoop
import Derived.Test.YtfnibpkojhgflaaTailK
import Derived.Test.YtfnibpkojhgflaaSepMore
import Derived.Lib.AppendZeros
import Derived.BigQuiet
namespace Go.Proofs.Ytfnibpkojhgflaa
set_option linter.unusedVariables false
set_option linter.unusedSimpArgs false
open Go.RowKit

theorem put_walk (n : Int) (w : World) (h : 0 ≤ n ∧ n < 4294967296) :
    Calls Try.prog 50 #[.int .u32 n] w fun e w' => ∃ a c, e = .returned (.slice a 4 c) ∧ RdI .u8 w' a c (wordB n) ∧ Below w.heap.size w w' := by
  obtain ⟨h1, h2⟩ := h
  go_enter Try.func50, Try.ntmps50
  go_wp2
  go_ret
  have hr := rd_lit8 w (wordB n) (wordB_byte n) (show 4 ≤ 1000 by decide)
  have e : wordB n = [n % 256, n / 256 % 256, n / 65536 % 256, n / 16777216] := by unfold wordB; rw [show n / 16777216 % 256 = n / 16777216 by omega]
  rw [e] at hr ⊢
  exact ⟨_, _, rfl, hr, bel1 _ _⟩

set_option maxHeartbeats 1000000 in
theorem name8_walk (s : ByteArray) (w : World) (hs : s.size ≤ 1000000) :
    Calls Try.prog 49 #[.string s] w fun e w' => ∃ a c, e = .returned (.slice a (nameB s).length c) ∧ RdI .u8 w' a c (nameB s) ∧ Below w.heap.size w w' := by
  have h1 : (s.size : Int) ≤ 1000000 := by omega
  have HB1 := Lib.hid (show 1 + s.size ≤ 140737488355328 by omega)
  have HB2 := Lib.hid (show 1 + s.size ≤ maxLen by unfold maxLen; omega)
  have HOW := Lib.hid (own_lit8 w [(s.size : Int) % 256] (show 1 ≤ 1000 by decide) (Nat.le_refl _))
  have HBL := Lib.hid (bel1 w (.cells #[.int .u8 ((s.size : Int) % 256)] 5))
  clear hs
  obtain ⟨ti, hti, hti0, hti1, hti2⟩ := info_parts info_u8
  have HT := Lib.hid (And.intro hti (And.intro hti0 (And.intro hti1 hti2)))
  clear hti hti0 hti1 hti2
  have f1 : True := trivial
  go_enter Try.func49, Try.ntmps49
  go_wp2_with (have _f := f1; refine Lib.wpList_append_own_string _ rfl (.tmp 6) (.tmp 7) 46 9 rfl w.heap.size 5 ti Try.underlying46 Try.underlying9 HT.out.1 HT.out.2.1 HT.out.2.2.1 HT.out.2.2.2 (.slice (some ⟨w.heap.size, 0, none⟩) 1 1) 1 _ rfl HOW.out s rfl HB2.out HB1.out HBL.out.size ?_; intro v' w' own' gr' _; have HB := Lib.hid (bel_own HBL.out HOW.out gr'); have HO := Lib.hid own'; clear own' gr' _f f1)
  go_ret
  have e : ([(s.size : Int) % 256].map (Value.int .u8) ++ Lib.strCells s) = (nameB s).map (Value.int .u8) := by rw [strCells_bytes]; rfl
  have ho := HO.out
  rw [e] at ho
  obtain ⟨a, c, rfl, hr⟩ := RdI.own ho (fun x hx => bd_u8' (nameB_byte s x hx))
  exact ⟨a, c, by rw [nameB_len]; rfl, hr, HB.out⟩

def refB2 (r : Rf) : List Int := [r.mod % 256, r.idx % 256]
theorem refB2_byte (r : Rf) : ∀ x ∈ refB2 r, isByte x := by
  intro x hx
  unfold refB2 at hx
  simp only [List.mem_cons, List.not_mem_nil, or_false] at hx
  rcases hx with rfl | rfl <;> exact ⟨by omega, by omega⟩
theorem refBytes8_walk (r : Rf) (w : World) :
    Calls Try.prog 63 #[r.val] w fun e w' => ∃ a c, e = .returned (.slice a 2 c) ∧ RdI .u8 w' a c (refB2 r) ∧ Below w.heap.size w w' := by
  obtain ⟨m, i⟩ := r
  show Calls _ _ #[.agg #[.int .i64 m, .int .i64 i]] w _
  go_enter Try.func63, Try.ntmps63
  go_wp2
  go_ret
  have hr := rd_lit8 (w.alloc (.cells #[.int .i64 m, .int .i64 i] 30)) (refB2 ⟨m, i⟩) (refB2_byte _) (show 2 ≤ 1000 by decide)
  rw [show (w.alloc (.cells #[.int .i64 m, .int .i64 i] 30)).heap.size = w.heap.size + 1 by simp] at hr
  exact ⟨_, _, rfl, hr, bel2 _ _ _⟩

set_option maxRecDepth 100000 in
/-- 'slices.Grow(nil, n)'. -/
theorem grow_walk (n : Nat) (w : World) (hn : n ≤ 1000000) :
    Calls Try.prog 70 #[.slice none 0 0, .int .i64 n] w fun e w' => ∃ v, e = .returned v ∧ w'.ownsRow w.heap.size 5 1 v 0 [] ∧ Below w.heap.size w w' := by
  have h1 : (n : Int) ≤ 1000000 := by omega
  obtain ⟨ti, hti, hti0, hti1, hti2⟩ := info_parts info_u8
  rcases Nat.eq_zero_or_pos n with rfl | h0
  · go_enter Try.func70, Try.ntmps70
    go_wp2
    go_ret
    exact ⟨_, rfl, World.ownsRow_nil _ _ _ _, Below.refl _ _⟩
  · have hr := Lib.run_append_nil_zeros (P := Try.prog) w 46 3 46 5 ti (.int .u8 0) .i64 .i64 Try.underlying46 Try.underlying3 hti hti0 n h0 (by rw [hti1]; decide) (by omega) (by rw [hti2]; omega)
    have h2 : (0 : Int) < n := by omega
    have HR := Lib.hid hr
    have HCP := Lib.hid (And.intro (grownCap_ge w n 0 5) (grownCap_le_maxLen w n 0 5 (by unfold maxLen; omega)))
    have HN := Lib.hid h0
    obtain ⟨cp, hcp⟩ : ∃ cp, cp = grownCap w n 0 5 := ⟨_, rfl⟩
    rw [← hcp] at HR HCP
    have k1 : n ≤ cp := HCP.out.1
    clear hti hti0 hti1 hti2 hcp hr h0
    have f1 : True := trivial
    go_enter Try.func70, Try.ntmps70
    go_wp2_with (first | (have _f := f1; at_builtin; refine Lib.wpList_append_run _ rfl (.tmp 20) (.tmp 21) 46 3 rfl _ _ rfl rfl _ _ HR.out ?_; clear _f f1))
    go_ret
    have hb := (Below.refl w.heap.size w).drew.alloc (Nat.le_refl _) (.cells (Builtin.zeroCells (Value.int .u8 0).cells n ++ Builtin.zeroCells (Value.int .u8 0).cells (cp - n)) 5)
    refine ⟨_, rfl, ⟨rfl, .inr ⟨w.heap.size, cp, _, rfl, Nat.le_refl _, At.new w.drew _ 5, Nat.zero_le _, HCP.out.2, ?_, rfl⟩⟩, hb⟩
    rw [Array.size_append, size_zeroCells, size_zeroCells]
    show n * 1 + (cp - n) * 1 = cp * 1
    have := HCP.out.1
    omega

theorem take_flat2 (ls : List (List Int)) (i : Nat) (h : i < ls.length) : (ls.take (i + 1)).flatten = (ls.take i).flatten ++ ls.getD i [] := by
  rw [List.take_succ_eq_append_getElem h, List.flatten_append, List.getD_eq_getElem?_getD, List.getElem?_eq_getElem h]; simp
theorem len_take_flat2 (ls : List (List Int)) (i : Nat) : (ls.take i).flatten.length ≤ ls.flatten.length := by
  conv => rhs; rw [← List.take_append_drop i ls, List.flatten_append, List.length_append]
  omega
theorem len_take_succ2 (ls : List (List Int)) (i : Nat) (h : i < ls.length) : (ls.take (i + 1)).flatten.length = (ls.take i).flatten.length + (ls.getD i []).length := by
  rw [take_flat2 ls i h, List.length_append]

set_option maxRecDepth 100000 in
set_option maxHeartbeats 2000000 in
/-- 'slices.Concat(l...)'. -/
theorem concat_walk (a : Option Addr) (ls : List (List Int)) (cap : Nat) (w : World) (hr : RdII .u8 w a cap ls) (hsum : ls.flatten.length ≤ 1000000) :
    Calls Try.prog 48 #[.slice a ls.length cap] w fun e w' => ∃ v, e = .returned v ∧ w'.ownsRow w.heap.size 5 1 v ls.flatten.length (ls.flatten.map (Value.int .u8)) ∧ Below w.heap.size w w' := by
  have hlen := hr.len
  obtain ⟨b, o, hat, hcell⟩ := hr.at'
  clear hr
  have HAt := Lib.hid hat; clear hat
  have HC := Lib.hid hcell; clear hcell
  have HS := Lib.hid hsum
  clear hsum
  have f1 : True := trivial
  have f2 : True := trivial
  go_enter Try.func48, Try.ntmps48
  go_wp2_with (fail)
  go_loop [3, 5, 11] (fun n _ v => ∃ i : Nat, i ≤ ls.length ∧ v = .int .i64 i ∧ n = .int .i64 ((ls.take i).flatten.length : Nat)) (fun _ _ v => ls.length - (intOf v).toNat)
  case atStart => exact ⟨0, Nat.zero_le _, rfl, rfl⟩
  case round =>
    obtain ⟨i, hi, rfl, rfl⟩ := hrel
    by_cases hlt : i < ls.length
    · obtain ⟨rfl, hb⟩ := HAt.out (by omega)
      obtain ⟨x, c, hc, hrx⟩ := HC.out i hlt
      have HN := Lib.hid (len_take_succ2 ls i hlt)
      have hb2 := hrx.len
      obtain ⟨m, hm⟩ : ∃ m, m = ls.getD i [] := ⟨_, rfl⟩
      rw [← hm] at hc hb2
      obtain ⟨t, ht⟩ : ∃ t, t = (ls.take i).flatten.length := ⟨_, rfl⟩
      rw [← ht]
      have k1 : (t : Int) + m.length ≤ 1000000 := by have h1 := HN.out; have h2 := len_take_flat2 ls (i + 1); have h3 := HS.out; rw [← hm] at h1; omega
      have HT := Lib.hid (show (ls.take (i + 1)).flatten.length = t + m.length by rw [HN.out, ht, hm])
      have HLT := Lib.hid hlt
      clear hrx hm ht hb HN
      go_wp2
      go_round
      case rel => exact ⟨i + 1, HLT.out, by go_num, by rw [HT.out]; go_num⟩
      case measure => simp [intOf]; have := HLT.out; omega
    · obtain rfl : i = ls.length := by omega
      have HTA := Lib.hid (show (ls.take ls.length).flatten.length = ls.flatten.length by rw [List.take_length])
      rw [HTA.out]
      have HG := Lib.hid (grow_walk ls.flatten.length w HS.out)
      obtain ⟨N, hN⟩ : ∃ N, N = ls.flatten.length := ⟨_, rfl⟩
      rw [← hN] at HG ⊢
      have HNN := Lib.hid hN
      have k0 : (N : Int) ≤ 1000000 := by have := HS.out; omega
      clear hN hi
      go_wp2_with (first | (have _f := f1; refine HG.out.mono ?_; rintro e' w1 ⟨v, rfl, ho, hb⟩; have HO := Lib.hid ho; have HB := Lib.hid hb; clear ho hb _f f1))
      go_loopw [6, 8, 27] (fun v _ i wr => ∃ k : Nat, k ≤ ls.length ∧ i = .int .i64 k ∧ wr.ownsRow w.heap.size 5 1 v (ls.take k).flatten.length ((ls.take k).flatten.map (Value.int .u8)) ∧ Below w.heap.size w wr) (fun _ _ i _ => ls.length - (intOf i).toNat)
      case atStart => exact ⟨0, Nat.zero_le _, rfl, HO.out, HB.out⟩
      case round =>
        obtain ⟨k, hk, rfl, ho, hb⟩ := hrel
        have HOr := Lib.hid ho
        have HBr := Lib.hid hb
        clear ho hb
        by_cases hlt : k < ls.length
        · obtain ⟨rfl, hb⟩ := HAt.out (by omega)
          obtain ⟨x, c, hc, hrx⟩ := HC.out k hlt
          have hc2 := (HBr.out.cell (p := ⟨b, o + k, none⟩) hb).trans hc
          have HRX := Lib.hid (hrx.below HBr.out (Nat.le_refl _))
          have HTF := Lib.hid (take_flat2 ls k hlt)
          have HLE := Lib.hid (len_take_succ2 ls k hlt)
          have HLE2 := Lib.hid (len_take_flat2 ls (k + 1))
          have HLT := Lib.hid hlt
          clear hc hrx hb
          obtain ⟨m, hm⟩ : ∃ m, m = ls.getD k [] := ⟨_, rfl⟩
          rw [← hm] at hc2 HRX HTF HLE
          clear hm
          have f3 : True := trivial
          go_wp2_with (first | (have _f := f3; refine append_at rfl (.tmp 31) (.tmp 32) et_u8 rfl w.heap.size rfl HOr.out rfl HRX.out.row (by rw [List.length_map, Nat.mul_one]) (fun u hu => by obtain ⟨x, _, rfl⟩ := List.mem_map.1 hu; rfl) (by have := HS.out; have := HLE.out; have := HLE2.out; omega) (by have := HS.out; have := HLE.out; have := HLE2.out; omega) HBr.out.size ?_; intro v' w2 ho hg hv; have HO2 := Lib.hid ho; have HB2 := Lib.hid (bel_own HBr.out HOr.out hg); clear ho hg hv _f f3))
          go_roundw
          case rel => exact ⟨k + 1, HLT.out, by go_num, by rw [HTF.out, List.map_append, List.length_append]; exact HO2.out, HB2.out⟩
          case measure => simp [intOf]; have := HLT.out; omega
        · obtain rfl : k = ls.length := by omega
          clear hk
          go_wp2
          go_ret
          refine ⟨_, rfl, ?_, HBr.out⟩
          have := HOr.out
          rw [List.take_length] at this
          exact this
end Go.Proofs.Ytfnibpkojhgflaa
