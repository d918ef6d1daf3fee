/- The law RiscNumbers, walked. -/
import Derived.Test.YtkeaogphaifnmaaRiscOps
import Derived.Test.YtkeaogphaifnmaaRiscReturns
import Derived.Test.YtkeaogphaifnmaaRiscLooks
namespace Go.Proofs.Ytkeaogphaifnmaa
set_option linter.unusedVariables false
set_option linter.unusedSimpArgs false
open Go.RowKit

theorem sg_neg {x : Int} (h : 0 ≤ x ∧ x < 4294967296) : decide (2147483648 ≤ x) = decide (W.sg x < 0) := by
  rw [Bool.eq_iff_iff]; simp only [decide_eq_true_eq]; unfold W.sg; split <;> omega
theorem sg_zero {x : Int} (h : 0 ≤ x ∧ x < 4294967296) : decide (x = 0) = decide (W.sg x = 0) := by
  rw [Bool.eq_iff_iff]; simp only [decide_eq_true_eq]; unfold W.sg; split <;> omega
def ni1 (r w : Int) : Ins := ⟨1, true, false, r, 0, 0, 0, w / 65536, 0, 0, 0⟩
def ni2 (r w : Int) : Ins := ⟨1, false, false, r, r, 0, 6, w % 65536, 0, 0, 0⟩
def ni3 (r w : Int) (v : Bool) : Ins := ⟨1, false, v, r, 0, 0, 0, w % 65536, 0, 0, 0⟩
theorem ni1_may {r w : Int} (hr : 0 ≤ r ∧ r ≤ 15) (hw : 0 ≤ w ∧ w < 4294967296) : (ni1 r w).May := by constructor <;> simp [ni1] <;> omega
theorem ni2_may {r w : Int} (hr : 0 ≤ r ∧ r ≤ 15) (hw : 0 ≤ w ∧ w < 4294967296) : (ni2 r w).May := by constructor <;> simp [ni2] <;> omega
theorem ni3_may {r w : Int} (v : Bool) (hr : 0 ≤ r ∧ r ≤ 15) (hw : 0 ≤ w ∧ w < 4294967296) : (ni3 r w v).May := by constructor <;> simp [ni3] <;> omega

theorem exec_op (c : Cpu) {i : Ins} (h : i.May) (hf : i.form ≤ 1) {d : Cpu} (hd : c.next.op i (c.next.r i.b.toNat) (c.next.num i) = some d) : c.step (wordR i) = (d, Ev.none) := by
  obtain ⟨_, h1, h2⟩ := word_of h
  unfold Cpu.step
  rw [h1, if_pos h2]
  unfold Cpu.exec
  rw [if_pos hf, hd]; rfl

def nd1 (c : Cpu) (r w : Int) : Cpu := c.next.set r (w / 65536 * 65536)
def nd2 (c : Cpu) (r w : Int) : Cpu := (nd1 c r w).next.set r w
def nd3 (c : Cpu) (r w : Int) : Cpu := c.next.set r w
def nD (c : Cpu) (r w : Int) : Nat → Cpu
  | 0 => c
  | 1 => nd1 c r w
  | _ => nd2 c r w
def nE (c : Cpu) (r w : Int) : Nat → Cpu
  | 0 => c
  | _ => nd3 c r w

theorem or_low {w : Int} (h0 : 0 ≤ w ∧ w < 4294967296) : bits .or .u32 (w / 65536 * 65536) (w % 65536) = w := by
  obtain ⟨n, rfl⟩ := Int.eq_ofNat_of_zero_le h0.1
  have hn : n < 4294967296 := by omega
  have e1 : ((n : Int) / 65536 * 65536) = ((n / 65536 * 65536 : Nat) : Int) := by omega
  have e2 : ((n : Int) % 65536) = ((n % 65536 : Nat) : Int) := by omega
  rw [e1, e2, u32_or_nat _ _ (by omega) (by omega), nat_join 16 _ _ (by omega) (by omega)]
  omega
theorem or_high {w : Int} (h0 : 0 ≤ w ∧ w < 65536) : bits .or .u32 w 4294901760 = w + 4294901760 := by
  obtain ⟨n, rfl⟩ := Int.eq_ofNat_of_zero_le h0.1
  have hn : n < 65536 := by omega
  have : (4294901760 : Int) = ((4294901760 : Nat) : Int) := rfl
  rw [this, u32_or_nat _ _ (by omega) (by omega), Nat.or_comm, nat_join 16 _ _ (by decide) hn]
  omega

theorem does2 {c : Cpu} (hk : c.Ok) {r w : Int} (hr : 0 ≤ r ∧ r ≤ 15) (hw : 0 ≤ w ∧ w < 4294967296) : Does c [ni1 r w, ni2 r w] (nD c r w) (fun _ => Ev.none) := by
  have k1 : (nd1 c r w).Ok := set_ok (ok_next hk) (by omega)
  refine ⟨rfl, fun k hkk => ?_, fun i hi => ?_, fun k i hi => ?_⟩
  · match k, hkk with
    | 0, _ => exact hk
    | 1, _ => exact k1
    | 2, _ => exact set_ok (ok_next k1) hw
  · rcases List.mem_cons.1 hi with rfl | hi
    · exact ni1_may hr hw
    · obtain rfl := List.mem_singleton.1 hi; exact ni2_may hr hw
  · match k, hi with
    | 0, hi =>
      obtain rfl : ni1 r w = i := by simpa using hi
      refine exec_op c (ni1_may hr hw) (by simp [ni1]) ?_
      have e : w / 65536 % 4294967296 * 65536 % 4294967296 = w / 65536 * 65536 := by omega
      simp [Cpu.op, Cpu.num, Ins.value, ni1, nD, nd1, e]
    | 1, hi =>
      obtain rfl : ni2 r w = i := by simpa using hi
      refine exec_op (nd1 c r w) (ni2_may hr hw) (by simp [ni2]) ?_
      have e : w % 65536 % 4294967296 = w % 65536 := by omega
      have e2 : ((nd1 c r w).next.r r.toNat) = w / 65536 * 65536 := by simp [nd1, Cpu.next, Cpu.set]
      simp [Cpu.op, Cpu.num, Ins.value, ni2, nD, nd2, e, e2, or_low hw]
    | k + 2, hi => simp at hi
theorem does1 {c : Cpu} (hk : c.Ok) {r w : Int} (hr : 0 ≤ r ∧ r ≤ 15) (hw : 0 ≤ w ∧ w < 4294967296) (hn : -65536 ≤ W.sg w ∧ W.sg w ≤ 65535) : Does c [ni3 r w (decide (W.sg w < 0))] (nE c r w) (fun _ => Ev.none) := by
  refine ⟨rfl, fun k hkk => ?_, fun i hi => ?_, fun k i hi => ?_⟩
  · match k, hkk with
    | 0, _ => exact hk
    | 1, _ => exact set_ok (ok_next hk) hw
  · obtain rfl := List.mem_singleton.1 hi; exact ni3_may _ hr hw
  · match k, hi with
    | 0, hi =>
      obtain rfl : ni3 r w (decide (W.sg w < 0)) = i := by simpa using hi
      refine exec_op c (ni3_may _ hr hw) (by simp [ni3]) ?_
      have e : w % 65536 % 4294967296 = w % 65536 := by omega
      have e3 := or_high (w := w % 65536) (by omega)
      by_cases hs : W.sg w < 0
      · have e4 : w % 65536 + 4294901760 = w := by unfold W.sg at hs hn; split at hs <;> omega
        simp [Cpu.op, Cpu.num, Ins.value, ni3, nE, nd3, e, hs, e3, e4]
      · have e4 : w % 65536 = w := by unfold W.sg at hs hn; split at hs <;> omega
        have e5 : w % 4294967296 = w := by omega
        simp [Cpu.op, Cpu.num, Ins.value, ni3, nE, nd3, e, hs, e4, e5]
    | k + 1, hi => simp at hi

set_option maxRecDepth 100000 in
set_option maxHeartbeats 8000000 in
theorem numbers_walk (c : Cpu) (x : Int) (reg : Int) (w : World) (hk : c.Ok) (_hx : IntKind.u32.min ≤ x ∧ x ≤ IntKind.u32.max) (_hr : IntKind.i64.min ≤ reg ∧ reg ≤ IntKind.i64.max) : Calls Try.prog 8 #[c.val, .int .u32 x, .int .i64 reg] w fun e w' => e = .returned (.bool true) ∧ Below w.heap.size w w' := by
  have hx : 0 ≤ x ∧ x < 4294967296 := by have h1 : IntKind.u32.max = 4294967295 := by decide
                                         have h2 : IntKind.u32.min = 0 := by decide
                                         omega
  clear _hx _hr
  by_cases h1 : reg < 0
  · have d1 : decide (reg < 0) = true := decide_eq_true h1
    go_enter Try.func8, Try.ntmps8
    go_wp2_with fail
    ( refine (known_walk _).mono ?_ ; rintro e w2 ⟨rfl, hb2⟩ ; go_wp2_with fail ; go_ret ; exact ⟨rfl, bel_then (bel1 w _) hb2⟩)
  · have d1 : decide (reg < 0) = false := decide_eq_false h1
    by_cases h2 : 15 < reg
    · have d2 : decide (15 < reg) = true := decide_eq_true h2
      go_enter Try.func8, Try.ntmps8
      go_wp2_with fail
      ( refine (known_walk _).mono ?_ ; rintro e w2 ⟨rfl, hb2⟩ ; go_wp2_with fail ; go_ret ; exact ⟨rfl, bel_then (bel1 w _) hb2⟩)
    · have d2 : decide (15 < reg) = false := decide_eq_false h2
      obtain ⟨j, rfl⟩ := Int.eq_ofNat_of_zero_le (show 0 ≤ reg by omega)
      have hj : j < 16 := by omega
      have HR : Hid (0 ≤ (j : Int) ∧ (j : Int) ≤ 15) := ⟨by omega, by omega⟩
      have HX := Lib.hid hx
      have HK := Lib.hid hk
      have H0 := (Sep.nil w).alloc c.cells 25
      have H1 := (Sep.nil w).alloc2 c.cells (insRow [ni1 j x, ni2 j x]).toArray 25 35
      have B1 := Lib.hid (bel2 w (.cells c.cells 25) (.cells (insRow [ni1 j x, ni2 j x]).toArray 35))
      have H1' := Lib.hid H1
      clear H1
      have hs := W.sg_bd HX.out.1 HX.out.2
      obtain ⟨s, hsx⟩ : ∃ s, s = W.sg x := ⟨_, rfl⟩
      rw [← hsx] at hs
      obtain ⟨N, hN⟩ : ∃ N, N = decide (s < 0) := ⟨_, rfl⟩
      obtain ⟨Z, hZ⟩ : ∃ Z, Z = decide (s = 0) := ⟨_, rfl⟩
      obtain ⟨d, hd⟩ : ∃ d, d = nd2 c j x := ⟨_, rfl⟩
      have c0 : d.cells[j]? = some (.int .u32 x) := reg_cell d w j hj (by rw [hd]; simp [nd2, Cpu.set])
      have c17 : d.cells[17]? = some (.bool N) := by
        rw [hd, hN, hsx, ← sg_neg HX.out]; rfl
      have c18 : d.cells[18]? = some (.bool Z) := by
        rw [hd, hZ, hsx, ← sg_zero HX.out]; rfl
      have C0 := Lib.hid c0
      have C17 := Lib.hid c17
      have C18 := Lib.hid c18
      have HS := Lib.hid hsx
      have HD := Lib.hid hd
      obtain ⟨d', hd'⟩ : ∃ d', d' = nd3 c j x := ⟨_, rfl⟩
      have c0' : d'.cells[j]? = some (.int .u32 x) := reg_cell d' w j hj (by rw [hd']; simp [nd3, Cpu.set])
      have c17' : d'.cells[17]? = some (.bool N) := by
        rw [hd', hN, hsx, ← sg_neg HX.out]; rfl
      have c18' : d'.cells[18]? = some (.bool Z) := by
        rw [hd', hZ, hsx, ← sg_zero HX.out]; rfl
      have hdo : -65536 ≤ s ∧ s ≤ 65535 → Does c [ni3 j x N] (nE c j x) (fun _ => Ev.none) := by
        rw [hN, hsx]; exact does1 HK.out HR.out HX.out
      have hxz : (x == 0) = Z := by
        have := sg_zero HX.out
        rw [hZ, hsx, ← this]
        rfl
      have C0' := Lib.hid c0'
      have C17' := Lib.hid c17'
      have C18' := Lib.hid c18'
      have HD' := Lib.hid hd'
      have HDO := Lib.hid hdo
      have HXZ := Lib.hid hxz
      clear c0 c17 c18 hsx hd hk h1 h2 c0' c17' c18' hd' hdo hxz
      go_enter Try.func8, Try.ntmps8
      go_wp2_with (first | (refine load_sep rfl 25 (.tmp 3) rfl H0 0 rfl rfl Try.underlying25 rfl (by kernel_rfl) ?_))
      refine (ops_walk' (L := [ni1 j x, ni2 j x]) (D := nD c j x) HD.out.symm (does2 HK.out HR.out HX.out) (H1'.out.at 0 rfl) (by simp)).mono ?_
      rintro e w2 ⟨rfl, hb2⟩
      have H2 := H1'.out.bel hb2
      have B2 := Lib.hid (bel_then B1.out hb2)
      clear hb2 H0
      go_wp2_with (first | (refine alloc_sep rfl 25 rfl H2 (z := Cpu.zero.val) (cs := Cpu.zero.cells) (by kernel_rfl) rfl ?_; intro w3 H3 b3 s3) | (refine store_sep rfl 25 (.tmp 7) (.tmp 30) rfl H3 0 rfl rfl rfl (by kernel_rfl) rfl ?_ ?_; rfl; intro w4 H4 k4 s4))
      refine (ref_signed _ _ HX.out).mono ?_
      rw [← HS.out]
      rintro e w' ⟨rfl, rfl⟩
      have f0 := ((H4.at 0 rfl).cell j).trans C0.out
      have f17 := ((H4.at 0 rfl).cell 17).trans C17.out
      have f18 := ((H4.at 0 rfl).cell 18).trans C18.out
      have B4 := Lib.hid (bel_ke (bel_then B2.out b3) k4 B2.out.size)
      have H2' := Lib.hid H4
      clear H2 H3 H4 b3 k4 s4 s3
      have n1 : decide (s < 0) = N := hN.symm
      have n2 : (s == 0) = Z := hZ.symm
      clear hN hZ
      by_cases h3 : s < -65536
      · have d3 : decide (s < -65536) = true := decide_eq_true h3
        cases N <;> cases Z
        all_goals
          go_wp2_with fail
          ( refine (known_walk _).mono ?_ ; rintro e w5 ⟨rfl, hb5⟩ ; go_wp2_with fail ; go_ret ; exact ⟨rfl, bel_then B4.out hb5⟩)
      · have d3 : decide (s < -65536) = false := decide_eq_false h3
        by_cases h4 : 65535 < s
        · have d4 : decide (65535 < s) = true := decide_eq_true h4
          cases N <;> cases Z
          all_goals
            go_wp2_with fail
            ( refine (known_walk _).mono ?_ ; rintro e w5 ⟨rfl, hb5⟩ ; go_wp2_with fail ; go_ret ; exact ⟨rfl, bel_then B4.out hb5⟩)
        · have d4 : decide (65535 < s) = false := decide_eq_false h4
          have DO := Lib.hid (HDO.out ⟨by omega, by omega⟩)
          have H5 := Lib.hid (H2'.out.alloc (insRow [ni3 j x N]).toArray 35)
          have B5 := Lib.hid (bel_then B4.out (bel1 w4 (.cells (insRow [ni3 j x N]).toArray 35)))
          have hL := Lib.hid H2'.out
          cases N <;> cases Z
          all_goals
            go_wp2_with (first | (refine load_sep rfl 25 (.tmp 3) rfl hL.out 2 rfl rfl Try.underlying25 rfl (by kernel_rfl) ?_))
            refine (ops_walk' HD'.out.symm DO.out (H5.out.at 0 rfl) (by simp)).mono ?_
            rintro e w6 ⟨rfl, hb6⟩
            have H6 := H5.out.bel hb6
            have B6 := Lib.hid (bel_then B5.out hb6)
            clear hb6
            go_wp2_with (first | (refine alloc_sep rfl 25 rfl H6 (z := Cpu.zero.val) (cs := Cpu.zero.cells) (by kernel_rfl) rfl ?_; intro w7 H7 b7 s7; clear H6) | (refine store_sep rfl 25 (.tmp 9) (.tmp 73) rfl H7 0 rfl rfl rfl (by kernel_rfl) rfl ?_ ?_; rfl; intro w8 H8 k8 s8; clear H7; have g0 := ((H8.at 0 rfl).cell j).trans C0'.out; have g17 := ((H8.at 0 rfl).cell 17).trans C17'.out; have g18 := ((H8.at 0 rfl).cell 18).trans C18'.out; have B8 := Lib.hid (bel_ke (bel_then B6.out b7) k8 B6.out.size); have hxz := HXZ.out; clear b7 k8 H8))
            refine (known_walk _).mono ?_
            rintro e w9 ⟨rfl, hb9⟩
            go_wp2_with fail
            go_ret
            exact ⟨rfl, bel_then B8.out hb9⟩

end Go.Proofs.Ytkeaogphaifnmaa
