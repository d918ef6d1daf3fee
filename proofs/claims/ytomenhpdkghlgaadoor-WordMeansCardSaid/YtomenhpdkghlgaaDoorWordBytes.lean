/- Contracts of words' bytes: word.Bytes, the reference's Bytes. -/
import Derived.Test.YtomenhpdkghlgaaDoorWordHex
namespace Go.Proofs.YtomenhpdkghlgaaDoor
set_option linter.unusedVariables false
set_option linter.unusedSimpArgs false
open Go.RowKit Go.Sort Go.Lib

theorem et_u32 : ET Tryd.prog 43 22 (.int .u32 0) 1 4 := ET.of Tryd.underlying43 (by kernel_rfl) rfl (by decide)

/-- a new block, read. -/
theorem rd_lits (w : World) (t : TypeId) (xs : Array Value) (h : xs.size ≤ 1000) : RdC (w.alloc (.cells xs t)) (some ⟨w.heap.size, 0, none⟩) xs.size xs.size xs.toList := by
  have h := World.ownsRow_lit (base := w.heap.size) (e := t) (size := 1) w xs xs.size (Nat.le_refl _) (by unfold maxLen; omega) (by omega)
  obtain ⟨a, c, e, hr⟩ := RdC.own h
  cases e
  exact hr

/-- a word's bytes, the lowest first. -/
def word4 (a : Int) : List Int := [a % 256, a / 256 % 256, a / 65536 % 256, a / 16777216 % 256]
theorem word4_top {a : Int} (h : 0 ≤ a ∧ a < 4294967296) : word4 a = [a % 256, a / 256 % 256, a / 65536 % 256, a / 16777216] := by
  unfold word4; rw [show a / 16777216 % 256 = a / 16777216 from by omega]
def bytesL (l : List Int) : List Int := l.flatMap word4
theorem bytesL_snoc (l : List Int) (a : Int) : bytesL (l ++ [a]) = bytesL l ++ word4 a := by simp [bytesL]
theorem bytesL_len (l : List Int) : (bytesL l).length = 4 * l.length := by
  induction l with
  | nil => rfl
  | cons a l ih => unfold bytesL at *; rw [List.flatMap_cons, List.length_append, ih]; simp [word4]; omega
theorem bytesL_bd (l : List Int) : ∀ x ∈ bytesL l, IntKind.u8.min ≤ x ∧ x ≤ IntKind.u8.max := by
  intro x hx
  obtain ⟨a, _, h⟩ := List.mem_flatMap.1 hx
  simp only [word4, List.mem_cons, List.not_mem_nil, or_false] at h
  rcases h with rfl | rfl | rfl | rfl <;> exact bd_u8' (by omega)
theorem take_snoc (l : List Int) (k : Nat) (h : k < l.length) : l.take (k + 1) = l.take k ++ [l.getD k 0] := by
  rw [List.take_succ_eq_append_getElem h, List.getD_eq_getElem?_getD, List.getElem?_eq_getElem h]; rfl

/-- a slice that the call made. -/
def RetInts (k : IntKind) (w : World) (l : List Int) (e : Ending) (w' : World) : Prop := ∃ a c, e = .returned (.slice a l.length c) ∧ RdI k w' a c l ∧ Below w.heap.size w w'

set_option maxRecDepth 100000 in
set_option maxHeartbeats 2000000 in
theorem bytes_walk (a : Option Addr) (l : List Int) (c : Nat) (w : World) (hr : RdI .u32 w a c l) (hn : l.length ≤ 100000) : Calls Tryd.prog 32 #[.slice a l.length c] w (RetInts .u8 w (bytesL l)) := by
  have hlen := hr.len
  obtain ⟨b, o, hat, hcell⟩ := hr.cells
  have HU := Lib.hid hr.u32; clear hr
  have HAt := Lib.hid hat; clear hat
  have HC := Lib.hid hcell; clear hcell
  obtain ⟨n, hnn⟩ : ∃ n, n = l.length := ⟨_, rfl⟩
  rw [← hnn] at hlen hn
  rw [← hnn]
  have HN := Lib.hid hnn; clear hnn
  go_enter Tryd.func32, Tryd.ntmps32
  go_wp2
  go_loopw [3, 8] (fun v i wr => ∃ k : Nat, k ≤ n ∧ i = .int .i64 k ∧ wr.ownsRow w.heap.size 5 1 v (4 * k) ((bytesL (l.take k)).map (Value.int .u8)) ∧ Below w.heap.size w wr)
    (fun _ i _ => n - (RowKit.intOf i).toNat)
  case atStart => exact ⟨0, Nat.zero_le _, rfl, World.ownsRow_nil _ _ _ _, Below.refl _ _⟩
  case round =>
    obtain ⟨k, hk, rfl, hown, hbel⟩ := hrel
    by_cases hlt : k < n
    · obtain ⟨rfl, hb⟩ := HAt.out (by rw [← HN.out]; omega)
      have hx := HU.out k (by rw [← HN.out]; exact hlt)
      have hc : wr.cell? ⟨b, o + k, none⟩ = some (.int .u32 (l.getD k 0)) := (hbel.cell (p := ⟨b, o + k, none⟩) hb).trans (HC.out k (by rw [← HN.out]; exact hlt))
      have hs := Lib.hid (take_snoc l k (by rw [← HN.out]; exact hlt))
      obtain ⟨x, hxe⟩ : ∃ x, x = l.getD k 0 := ⟨_, rfl⟩
      rw [← hxe] at hc hx hs
      clear hxe
      have HOW := Lib.hid hown; clear hown
      have HB := Lib.hid hbel; clear hbel
      go_wp2_with (at_builtin; refine append_rd rfl (.tmp 12) (.tmp 24) et_u8 rfl w.heap.size rfl (HOW.out.alloc _) rfl (rd_lits _ _ _ (by simp)) (by simp) (by intro u hu; simp at hu; rcases hu with rfl | rfl | rfl | rfl <;> rfl) (by simp; omega) (by simp; omega) (by have := HB.out.size; simp; omega) ?_; intro v' w1 hown1 hgrow)
      go_roundw
      case rel =>
        refine ⟨k + 1, by omega, by go_num, ?_, ?_⟩
        · rw [hs.out, bytesL_snoc, List.map_append, show 4 * (k + 1) = 4 * k + 4 from by omega, word4_top hx]
          exact hown1
        · exact (HB.out.alloc HB.out.size _).grown hgrow (by have := HB.out.size; simp; omega) (fun g hg => (HOW.out.lt g hg).1)
      case measure => simp [RowKit.intOf]; omega
    · obtain rfl : k = n := by omega
      have e : l.take k = l := List.take_of_length_le (by rw [HN.out]; exact Nat.le_refl _)
      rw [e, HN.out, ← bytesL_len] at hown
      obtain ⟨a', c', rfl, hrd⟩ := RdI.own (k := .u8) hown (bytesL_bd l)
      have HR := Lib.hid hrd
      have HB := Lib.hid hbel
      clear hown hrd hbel e
      go_wp2_with fail
      go_ret
      exact ⟨_, _, rfl, HR.out, HB.out⟩

/-- the first j bytes of a word. -/
def word4_take (a : Int) (j : Nat) : List Int := (word4 a).take j
theorem word4_snoc (a : Int) (h : 0 ≤ a ∧ a < 4294967296) (j : Nat) (hj : j < 4) : word4_take a (j + 1) = word4_take a j ++ [a / 256 ^ j % 256] := by
  match j, hj with
  | 0, _ => simp [word4_take, word4]
  | 1, _ => simp [word4_take, word4]
  | 2, _ => simp [word4_take, word4]
  | 3, _ => simp [word4_take, word4]

set_option maxRecDepth 100000 in
set_option maxHeartbeats 2000000 in
theorem rbytes_walk (a : Option Addr) (l : List Int) (c : Nat) (w : World) (hr : RdI .u32 w a c l) (hn : l.length ≤ 100000) : Calls Tryd.prog 34 #[.slice a l.length c] w (RetInts .u8 w (bytesL l)) := by
  have hlen := hr.len
  obtain ⟨b, o, hat, hcell⟩ := hr.cells
  have HU := Lib.hid hr.u32; clear hr
  have HAt := Lib.hid hat; clear hat
  have HC := Lib.hid hcell; clear hcell
  obtain ⟨n, hnn⟩ : ∃ n, n = l.length := ⟨_, rfl⟩
  rw [← hnn] at hlen hn
  rw [← hnn]
  have HN := Lib.hid hnn; clear hnn
  go_enter Tryd.func34, Tryd.ntmps34
  go_wp2
  go_loopw [3, 4] (fun v i wr => ∃ k : Nat, k ≤ n ∧ i = .int .i64 k ∧ wr.ownsRow w.heap.size 5 1 v (4 * k) ((bytesL (l.take k)).map (Value.int .u8)) ∧ Below w.heap.size w wr)
    (fun _ i _ => n - (RowKit.intOf i).toNat)
  case atStart => exact ⟨0, Nat.zero_le _, rfl, World.ownsRow_nil _ _ _ _, Below.refl _ _⟩
  case round =>
    obtain ⟨k, hk, rfl, hown, hbel⟩ := hrel
    by_cases hlt : k < n
    · obtain ⟨rfl, hb⟩ := HAt.out (by rw [← HN.out]; omega)
      have hx := HU.out k (by rw [← HN.out]; exact hlt)
      have hc : wr.cell? ⟨b, o + k, none⟩ = some (.int .u32 (l.getD k 0)) := (hbel.cell (p := ⟨b, o + k, none⟩) hb).trans (HC.out k (by rw [← HN.out]; exact hlt))
      have hs := Lib.hid (take_snoc l k (by rw [← HN.out]; exact hlt))
      obtain ⟨x, hxe⟩ : ∃ x, x = l.getD k 0 := ⟨_, rfl⟩
      rw [← hxe] at hc hx hs
      clear hxe
      have HOW := Lib.hid hown; clear hown
      have HB := Lib.hid hbel; clear hbel
      go_wp2_with fail
      go_loopw [3, 5, 6] (fun v y j wq => ∃ i : Nat, i ≤ 4 ∧ j = .int .i64 i ∧ y = .int .u32 (x / 256 ^ i) ∧ wq.ownsRow w.heap.size 5 1 v (4 * k + i) ((bytesL (l.take k) ++ word4_take x i).map (Value.int .u8)) ∧ Below w.heap.size w wq)
        (fun _ _ j _ => 4 - (RowKit.intOf j).toNat)
      case atStart => exact ⟨0, by omega, rfl, by simp, by simpa [word4_take] using HOW.out, HB.out⟩
      case round =>
        obtain ⟨i, hi, rfl, rfl, hown2, hbel2⟩ := hrel
        by_cases hlt2 : i < 4
        · have HOW2 := Lib.hid hown2; clear hown2
          have HB2 := Lib.hid hbel2; clear hbel2
          have hq : 0 ≤ x / 256 ^ i ∧ x / 256 ^ i < 4294967296 := by
            have hp : (0 : Int) < 256 ^ i := Int.pow_pos (by decide)
            exact ⟨Int.ediv_nonneg hx.1 (by omega), Int.lt_of_le_of_lt (Int.ediv_le_self _ hx.1) hx.2⟩
          have hw4 := Lib.hid (word4_snoc x hx i hlt2)
          have hdv := Lib.hid (show x / 256 ^ (i + 1) = x / 256 ^ i / 256 by rw [Int.pow_succ, Int.ediv_ediv_of_nonneg (Int.le_of_lt (Int.pow_pos (by decide)))])
          obtain ⟨y, hy⟩ : ∃ y, y = x / 256 ^ i := ⟨_, rfl⟩
          rw [← hy] at hq hw4 hdv
          rw [← hy]
          clear hy
          go_wp2_with (at_builtin; refine append_rd rfl (.tmp 21) (.tmp 25) et_u8 rfl w.heap.size rfl (HOW2.out.alloc _) rfl (rd_lit _ _) (by simp) (by intro u hu; obtain rfl := List.mem_singleton.1 hu; rfl) (by omega) (by omega) (by have := HB2.out.size; simp; omega) ?_; intro v' w1 hown1 hgrow)
          go_roundw
          case rel =>
            refine ⟨i + 1, by omega, by go_num, by rw [hdv.out], ?_, ?_⟩
            · rw [hw4.out, ← List.append_assoc, List.map_append]
              exact hown1
            · exact (HB2.out.alloc HB2.out.size _).grown hgrow (by have := HB2.out.size; simp; omega) (fun g hg => (HOW2.out.lt g hg).1)
          case measure => simp [RowKit.intOf]; omega
        · obtain rfl : i = 4 := by omega
          have hown3 := hown2
          have HOW2 := Lib.hid hown3; clear hown2 hown3
          have HB2 := Lib.hid hbel2; clear hbel2
          go_wp2_with fail
          go_roundw
          case rel =>
            refine ⟨k + 1, by omega, by go_num, ?_, HB2.out⟩
            rw [hs.out, bytesL_snoc, show 4 * (k + 1) = 4 * k + 4 from by omega]
            exact HOW2.out
          case measure => simp [RowKit.intOf]; omega
    · obtain rfl : k = n := by omega
      have e : l.take k = l := List.take_of_length_le (by rw [HN.out]; exact Nat.le_refl _)
      rw [e, HN.out, ← bytesL_len] at hown
      obtain ⟨a', c', rfl, hrd⟩ := RdI.own (k := .u8) hown (bytesL_bd l)
      have HR := Lib.hid hrd
      have HB := Lib.hid hbel
      clear hown hrd hbel e
      go_wp2_with fail
      go_ret
      exact ⟨_, _, rfl, HR.out, HB.out⟩

end Go.Proofs.YtomenhpdkghlgaaDoor
