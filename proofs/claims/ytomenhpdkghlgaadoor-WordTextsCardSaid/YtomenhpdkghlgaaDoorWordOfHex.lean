/- Contract of word.OfHex. -/
import Derived.Test.YtomenhpdkghlgaaDoorWordHex
import Derived.Lib.OthersKept
import Derived.Laws.RangeAny
import Derived.WalkMore
namespace Go.Proofs.YtomenhpdkghlgaaDoor
set_option linter.unusedVariables false
set_option linter.unusedSimpArgs false
open Go.RowKit Go.Sort Go.Lib

/-- a hexadecimal digit? its value. -/
def isHex (c : Int) : Bool := decide (48 ≤ c ∧ c ≤ 57) || decide (97 ≤ c ∧ c ≤ 102)
def hexv (c : Int) : Int := if c ≤ 57 then c - 48 else c - 87
def hexF (l : List Int) : Int := l.foldl (fun n c => n * 16 + hexv c) 0
theorem hexF_snoc (l : List Int) (c : Int) : hexF (l ++ [c]) = hexF l * 16 + hexv c := by unfold hexF; rw [List.foldl_append]; rfl
/-- a text's bytes as numbers. -/
def codes (s : ByteArray) : List Int := s.data.toList.map fun c => ((c.toNat : Nat) : Int)
theorem codes_len (s : ByteArray) : (codes s).length = s.size := by unfold codes; rw [List.length_map]; rfl
theorem codes_at (s : ByteArray) (k : Nat) (h : k < s.size) : (codes s).take (k + 1) = (codes s).take k ++ [(((s[k]'h).toNat : Nat) : Int)] := by
  have hk : k < (codes s).length := by rw [codes_len]; exact h
  rw [List.take_succ_eq_append_getElem hk]
  have e : (codes s)[k]? = some (((s[k]'h).toNat : Nat) : Int) := by
    unfold codes
    rw [List.getElem?_map, List.getElem?_eq_getElem (show k < s.data.toList.length from h)]
    rfl
  rw [List.getElem?_eq_getElem hk] at e
  rw [Option.some.inj e]

def ofHexV (s : ByteArray) : Int × Int := if s.size = 8 ∧ (codes s).all isHex = true then (hexF (codes s), 0) else (0, 4)

theorem or_digit {x d : Int} (hx : 0 ≤ x ∧ x < 4294967296) (hd : 0 ≤ d ∧ d < 16) : bits .or .u32 (x * 16 % 4294967296) d = x * 16 % 4294967296 + d := by
  obtain ⟨n, rfl⟩ := Int.eq_ofNat_of_zero_le hx.1
  obtain ⟨m, rfl⟩ := Int.eq_ofNat_of_zero_le hd.1
  rw [show ((n : Int) * 16 % 4294967296) = ((n * 16 % 4294967296 : Nat) : Int) from by omega, u32_or_nat _ _ (by omega) (by omega), nat_join 4 _ _ (by omega) (by omega)]
  omega

structure HexAt (s : ByteArray) (pos : Nat) (x : Int) : Prop where
  bd : 0 ≤ x ∧ x < 4294967296
  val : s.size = 8 → x = hexF ((codes s).take pos) ∧ x < 16 ^ pos
  all : ((codes s).take pos).all isHex = true

theorem hexv_bd {c : Int} (h : isHex c = true) : 0 ≤ hexv c ∧ hexv c < 16 := by
  unfold isHex at h
  unfold hexv
  simp only [Bool.or_eq_true, decide_eq_true_eq] at h
  split <;> omega
theorem HexAt.next {s : ByteArray} {pos : Nat} {x c : Int} (h : HexAt s pos x) (hp : pos < s.size) (hc : c = (((s[pos]'hp).toNat : Nat) : Int)) (hx : isHex c = true) : HexAt s (pos + 1) (x * 16 % 4294967296 + hexv c) := by
  have hd := hexv_bd hx
  have hb := h.bd
  refine ⟨by omega, fun h8 => ?_, ?_⟩
  · obtain ⟨h1, h2⟩ := h.val h8
    have hpw : (16 : Int) ^ (pos + 1) = 16 ^ pos * 16 := Int.pow_succ ..
    have hle : (16 : Int) ^ pos ≤ 268435456 := by
      have h3 : (16 : Nat) ^ pos ≤ 16 ^ 7 := Nat.pow_le_pow_right (by decide) (by omega)
      have e1 : ((16 ^ pos : Nat) : Int) = (16 : Int) ^ pos := by rw [Int.natCast_pow]; rfl
      have e2 : (16 : Nat) ^ 7 = 268435456 := by decide
      rw [← e1]; omega
    rw [codes_at s pos hp, hexF_snoc, ← h1, ← hc]
    refine ⟨by omega, by omega⟩
  · rw [codes_at s pos hp, List.all_append, h.all, ← hc]
    simp [hx]

theorem ofhex_bad {s : ByteArray} {pos : Nat} (hp : pos < s.size) {c : Int} (hc : c = (((s[pos]'hp).toNat : Nat) : Int)) (h : isHex c = false) : ofHexV s = (0, 4) := by
  unfold ofHexV
  rw [if_neg]
  rintro ⟨_, h2⟩
  have h3 : c ∈ codes s := by
    have h4 : (codes s).take (pos + 1) = (codes s).take pos ++ [c] := by rw [codes_at s pos hp, hc]
    have h5 : c ∈ (codes s).take (pos + 1) := by rw [h4]; simp
    exact List.mem_of_mem_take h5
  have := List.all_eq_true.1 h2 c h3
  rw [h] at this; cases this
theorem ofhex_end {s : ByteArray} {pos : Nat} {x : Int} (h : HexAt s pos x) (hp : ¬ pos < s.size) : ofHexV s = if s.size = 8 then (x, 0) else (0, 4) := by
  have e : (codes s).take pos = codes s := List.take_of_length_le (by rw [codes_len]; omega)
  have ha := h.all
  rw [e] at ha
  unfold ofHexV
  by_cases h8 : s.size = 8
  · have hv := (h.val h8).1
    rw [e] at hv
    rw [if_pos ⟨h8, ha⟩, if_pos h8, hv]
  · rw [if_neg (fun hh => h8 hh.1), if_neg h8]
theorem ret_of' {a b : Int} {p : Int × Int} (h : p = (a, b)) : Ending.returned (.tuple #[.int .u32 a, .int .i64 b]) = .returned (.tuple #[.int .u32 p.1, .int .i64 p.2]) := by rw [h]

set_option maxRecDepth 100000 in
set_option maxHeartbeats 4000000 in
theorem ofhex_walk (s : ByteArray) (w : World) (hs : s.size ≤ 100000) : Calls Tryd.prog 37 #[.string s] w fun e w' => e = .returned (.tuple #[.int .u32 (ofHexV s).1, .int .i64 (ofHexV s).2]) ∧ Below w.heap.size w w' := by
  obtain ⟨g, hg⟩ : ∃ g, g = decide (s.size = 8) := ⟨_, rfl⟩
  have hg' : ((s.size : Int) == 8) = g := by rw [hg, Bool.eq_iff_iff]; simp; omega
  have HG := Lib.hid hg
  have HS := Lib.hid hs
  clear hg hs
  go_enter Tryd.func37, Tryd.ntmps37
  go_wp2_with fail
  go_step3
  go_wp2_with fail
  go_step3
  go_wp2_with fail
  go_loopw [4, 5] (fun nv gv wr => ∃ (pos : Nat) (x : Int), pos ≤ s.size ∧ nv = .int .u32 x ∧ gv = .bool g ∧ HexAt s pos x ∧ wr.heap[w.heap.size]? = some (.stringIter s pos) ∧ Below w.heap.size w wr)
    (fun _ _ wr => s.size - wr.iterPos w.heap.size)
  case atStart => exact ⟨0, 0, Nat.zero_le _, rfl, rfl, ⟨by omega, fun _ => ⟨rfl, by decide⟩, rfl⟩, World.iter_heap _ _ _, (Below.refl _ _).alloc (Nat.le_refl _) _⟩
  case round =>
    obtain ⟨pos, x, hpos, rfl, rfl, hx, hk, hbel⟩ := hrel
    have HX := Lib.hid hx
    by_cases hp : pos < s.size
    · have hmu : wr.iterPos w.heap.size = pos := by simp [World.iterPos, hk]
      obtain ⟨c, hc⟩ : ∃ c : Int, c = (((s[pos]'hp).toNat : Nat) : Int) := ⟨_, rfl⟩
      by_cases ha : (s[pos]'hp).toNat < 128
      · have hnext : ∀ ty, (Instr.next (.pointer (some ⟨w.heap.size, 0, none⟩)) true ty).run Tryd.prog wr = _ := fun ty => run_next_ascii_at wr w.heap.size s pos ty hk hp ha
        have hk1 := iterAt_heap wr w.heap.size s pos (pos + 1) hk
        have hb1 : Below w.heap.size w (wr.iterAt w.heap.size s (pos + 1)) := below_iterAt hbel (Nat.le_refl _) s (pos + 1)
        generalize wr.iterAt w.heap.size s (pos + 1) = W1 at hnext hk1 hb1
        rw [← hc] at hnext
        have HB1 := Lib.hid hb1
        have HK1 := Lib.hid hk1
        have HC := Lib.hid hc
        have HMU := Lib.hid hmu
        have xb := hx.bd
        have HPS := Lib.hid hp
        have cb : 0 ≤ c ∧ c < 128 := by rw [hc]; omega
        by_cases h1 : 48 ≤ c ∧ c ≤ 57
        · have hh : isHex c = true := by unfold isHex; simp [h1]
          have hv : c - 48 = hexv c := by unfold hexv; rw [if_pos (by omega)]
          have hn := HX.out.next HPS.out HC.out hh
          have hor := or_digit xb (hexv_bd hh)
          have i1 : decide (48 ≤ c) = true := decide_eq_true h1.1
          have i2 : decide (c ≤ 57) = true := decide_eq_true h1.2
          have HNX := Lib.hid hn
          obtain ⟨d, hd⟩ : ∃ d, d = hexv c := ⟨_, rfl⟩
          have db := hexv_bd hh
          rw [← hd] at hv hor HNX db
          clear hn hd hc hh hk hbel hb1 hk1 hx hmu ha HC HX
          go_wp2_with fail
          go_roundw
          case rel => exact ⟨pos + 1, _, HPS.out, rfl, rfl, HNX.out, HK1.out, HB1.out⟩
          case measure =>
            have hmu2 : W1.iterPos w.heap.size = pos + 1 := by simp [World.iterPos, HK1.out]
            rw [HMU.out, hmu2]
            have := HPS.out
            omega
        · by_cases h2 : 97 ≤ c ∧ c ≤ 102
          · have hh : isHex c = true := by unfold isHex; simp [h2]
            have hv : c - 97 + 10 = hexv c := by unfold hexv; rw [if_neg (by omega)]; omega
            have hn := HX.out.next HPS.out HC.out hh
            have hor := or_digit xb (hexv_bd hh)
            have i1 : decide (48 ≤ c) = true := decide_eq_true (by omega)
            have i2 : decide (c ≤ 57) = false := decide_eq_false (by omega)
            have i3 : decide (97 ≤ c) = true := decide_eq_true h2.1
            have i4 : decide (c ≤ 102) = true := decide_eq_true h2.2
            have HNX := Lib.hid hn
            obtain ⟨d, hd⟩ : ∃ d, d = hexv c := ⟨_, rfl⟩
            have db := hexv_bd hh
            rw [← hd] at hv hor HNX db
            clear hn hd hc hh hk hbel hb1 hk1 hx hmu ha HC HX h1
            go_wp2_with fail
            go_roundw
            case rel => exact ⟨pos + 1, _, HPS.out, rfl, rfl, HNX.out, HK1.out, HB1.out⟩
            case measure =>
              have hmu2 : W1.iterPos w.heap.size = pos + 1 := by simp [World.iterPos, HK1.out]
              rw [HMU.out, hmu2]
              have := HPS.out
              omega
          · have hbad : isHex c = false := by
              unfold isHex
              rw [Bool.or_eq_false_iff, decide_eq_false_iff_not, decide_eq_false_iff_not]; exact ⟨h1, h2⟩
            have e := ofhex_bad hp hc hbad
            have E := Lib.hid e
            clear e hbad hc hk hbel hb1 hk1 hx hmu ha HC HX
            by_cases i1 : 48 ≤ c
            · have j1 : decide (48 ≤ c) = true := decide_eq_true i1
              have j2 : decide (c ≤ 57) = false := decide_eq_false (by omega)
              by_cases i3 : 97 ≤ c
              · have j3 : decide (97 ≤ c) = true := decide_eq_true i3
                have j4 : decide (c ≤ 102) = false := decide_eq_false (by omega)
                clear h1 h2
                go_wp2_with fail
                (try simp only [Exit.noGoto])
                go_ret2
                exact ⟨ret_of' E.out, HB1.out⟩
              · have j3 : decide (97 ≤ c) = false := decide_eq_false i3
                clear h1 h2
                go_wp2_with fail
                (try simp only [Exit.noGoto])
                go_ret2
                exact ⟨ret_of' E.out, HB1.out⟩
            · have j1 : decide (48 ≤ c) = false := decide_eq_false i1
              have j3 : decide (97 ≤ c) = false := decide_eq_false (by omega)
              clear h1 h2
              go_wp2_with fail
              (try simp only [Exit.noGoto])
              go_ret2
              exact ⟨ret_of' E.out, HB1.out⟩
      · have hnext : ∀ ty, (Instr.next (.pointer (some ⟨w.heap.size, 0, none⟩)) true ty).run Tryd.prog wr = _ := fun ty => run_next_any_at wr w.heap.size s pos ty hk hp
        have hr := decode_high s pos hp (by omega)
        have hb1 : Below w.heap.size w (wr.iterAt w.heap.size s (pos + (Utf8.decode s pos).2)) := below_iterAt hbel (Nat.le_refl _) s _
        generalize wr.iterAt w.heap.size s (pos + (Utf8.decode s pos).2) = W1 at hnext hb1
        obtain ⟨r, hrr⟩ : ∃ r : Int, r = (((Utf8.decode s pos).1 : Nat) : Int) := ⟨_, rfl⟩
        have hr1 : 128 ≤ r := by rw [hrr]; omega
        rw [← hrr] at hnext
        have hbad : isHex c = false := by
          unfold isHex
          rw [Bool.or_eq_false_iff, decide_eq_false_iff_not, decide_eq_false_iff_not]; omega
        have e := ofhex_bad hp hc hbad
        have E := Lib.hid e
        have HB1 := Lib.hid hb1
        have j1 : decide (48 ≤ r) = true := decide_eq_true (by omega)
        have j2 : decide (r ≤ 57) = false := decide_eq_false (by omega)
        have j3 : decide (97 ≤ r) = true := decide_eq_true (by omega)
        have j4 : decide (r ≤ 102) = false := decide_eq_false (by omega)
        clear e hbad hc hk hbel hb1 hx hmu ha HX hrr hr
        go_wp2_with fail
        (try simp only [Exit.noGoto])
        go_ret2
        exact ⟨ret_of' E.out, HB1.out⟩
    · have hnext : ∀ ty, (Instr.next (.pointer (some ⟨w.heap.size, 0, none⟩)) true ty).run Tryd.prog wr = _ := fun ty => run_next_end_at wr w.heap.size s pos ty hk hp
      have e := ofhex_end hx hp
      have HB1 := Lib.hid hbel
      have E := Lib.hid e
      have hG := HG.out
      have HGG := Lib.hid hG
      clear e hx HX hk hbel hG
      cases g
      · have h8 : ¬ s.size = 8 := of_decide_eq_false HGG.out.symm
        have E2 := Lib.hid (E.out.trans (if_neg h8))
        clear h8
        go_wp2_with fail
        (try simp only [Exit.noGoto])
        go_ret2
        exact ⟨ret_of' E2.out, HB1.out⟩
      · have h8 : s.size = 8 := of_decide_eq_true HGG.out.symm
        have E2 := Lib.hid (E.out.trans (if_pos h8))
        clear h8
        go_wp2_with fail
        (try simp only [Exit.noGoto])
        go_ret2
        exact ⟨ret_of' E2.out, HB1.out⟩

end Go.Proofs.YtomenhpdkghlgaaDoor
