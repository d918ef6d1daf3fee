/- The law RiscOrders, walked. -/
import Derived.Test.YtkeaogphaifnmaaRiscReturns
namespace Go.Proofs.Ytkeaogphaifnmaa
set_option linter.unusedVariables false
set_option linter.unusedSimpArgs false
open Go.RowKit

def ki5 (b d : Int) : Ins := ⟨0, false, false, 3, b, d, 9, 0, 0, 0, 0⟩
theorem ki5_may {b d : Int} (hb : 0 ≤ b ∧ b ≤ 15) (hd : 0 ≤ d ∧ d ≤ 15) : (ki5 b d).May := by constructor <;> simp [ki5] <;> omega
theorem ki5_ok {b d : Int} (hb : 0 ≤ b ∧ b ≤ 15) (hd : 0 ≤ d ∧ d ≤ 15) : (ki5 b d).Ok := by constructor <;> simp [ki5] <;> omega
/-- behind SUB. -/
def Cpu.sub (c : Cpu) (p q : Int) : Cpu := ({ c.next with c := decide (p - q - 0 < 0), v := W.out (W.sg p - W.sg q - 0) } : Cpu).set 3 (W.wd (p - q - 0))
theorem k5_step (c : Cpu) {b d : Int} (hb : 0 ≤ b ∧ b ≤ 15) (hd : 0 ≤ d ∧ d ≤ 15) : c.step (wordR (ki5 b d)) = (c.sub (c.r b.toNat) (c.r d.toNat), Ev.none) := by
  obtain ⟨_, h1, h2⟩ := word_of (ki5_may hb hd)
  unfold Cpu.step
  rw [h1, if_pos h2]
  unfold Cpu.exec
  rw [if_pos (by simp [ki5])]
  have e : c.next.op (ki5 b d) (c.next.r (ki5 b d).b.toNat) (c.next.num (ki5 b d)) = some (c.sub (c.r b.toNat) (c.r d.toNat)) := by
    have h3 : c.next.num (ki5 b d) = c.r d.toNat := by simp [Cpu.num, ki5, Cpu.next]
    rw [h3]
    simp [Cpu.op, ki5, Cpu.sub, bn, Cpu.next]
  rw [e]; rfl

/-- what is wanted of the conditions. -/
def wants (x3 : Int) (v : Bool) (p q : Int) : Nat → Bool
  | 0 => decide (2147483648 ≤ x3)
  | 1 => p == q
  | 2 => decide (p < q)
  | 3 => v
  | 4 => decide (p ≤ q)
  | 5 => decide (W.sg p < W.sg q)
  | 6 => decide (W.sg p ≤ W.sg q)
  | _ => true

theorem is_wants (c : Cpu) {p q : Int} (hp : 0 ≤ p ∧ p < 4294967296) (hq : 0 ≤ q ∧ q < 4294967296) (k : Nat) (hk : k < 8) : (c.sub p q).is k = wants (W.wd (p - q)) (W.out (W.sg p - W.sg q)) p q k := by
  have s1 := W.sg_bd hp.1 hp.2
  have s2 := W.sg_bd hq.1 hq.2
  have e1 : p = if W.sg p < 0 then W.sg p + 4294967296 else W.sg p := by unfold W.sg; split <;> split <;> omega
  have e2 : q = if W.sg q < 0 then W.sg q + 4294967296 else W.sg q := by unfold W.sg; split <;> split <;> omega
  match k, hk with
  | 0, _ => simp [Cpu.is, Cpu.sub, Cpu.set, wants]
  | 1, _ => simp [Cpu.is, Cpu.sub, Cpu.set, wants, W.wd]; rw [Bool.eq_iff_iff]; simp; omega
  | 2, _ => simp [Cpu.is, Cpu.sub, Cpu.set, wants]; omega
  | 3, _ => simp [Cpu.is, Cpu.sub, Cpu.set, wants]
  | 4, _ => simp [Cpu.is, Cpu.sub, Cpu.set, wants, W.wd]; rw [Bool.eq_iff_iff]; simp; omega
  | 5, _ =>
    by_cases hA : 2147483648 ≤ (p - q) % 4294967296 <;> by_cases hO : (W.sg p - W.sg q < -2147483648 ∨ 2147483648 ≤ W.sg p - W.sg q) <;> simp [Cpu.is, Cpu.sub, Cpu.set, wants, W.wd, W.out, hA, hO] <;> (split at e1 <;> split at e2 <;> omega)
  | 6, _ =>
    by_cases hZ : (p - q) % 4294967296 = 0 <;> by_cases hA : 2147483648 ≤ (p - q) % 4294967296 <;> by_cases hO : (W.sg p - W.sg q < -2147483648 ∨ 2147483648 ≤ W.sg p - W.sg q) <;> simp [Cpu.is, Cpu.sub, Cpu.set, wants, W.wd, W.out, hA, hO, hZ] <;> (split at e1 <;> split at e2 <;> omega)
  | 7, _ => simp [Cpu.is, wants]

def wantCells (x3 : Int) (v : Bool) (p q : Int) : Array Value := #[.bool (decide (2147483648 ≤ x3)), .bool (p == q), .bool (decide (p < q)), .bool v, .bool (decide (p ≤ q)), .bool (decide (W.sg p < W.sg q)), .bool (decide (W.sg p ≤ W.sg q)), .bool true]
theorem want_cell (x3 : Int) (v : Bool) (p q : Int) (k : Nat) (hk : k < 8) : (wantCells x3 v p q)[k]? = some (.bool (wants x3 v p q k)) := by
  match k, hk with
  | 0, _ | 1, _ | 2, _ | 3, _ | 4, _ | 5, _ | 6, _ | 7, _ => rfl
theorem gt_dec {a : Int} (h : ¬ a < 0) : decide (a < 0) = false := decide_eq_false h

set_option maxRecDepth 100000 in
set_option maxHeartbeats 8000000 in
theorem orders_walk (c : Cpu) (b d : Int) (w : World) (hk : c.Ok) (_hb : IntKind.i64.min ≤ b ∧ b ≤ IntKind.i64.max) (_hd : IntKind.i64.min ≤ d ∧ d ≤ IntKind.i64.max) : Calls Try.prog 5 #[c.val, .int .i64 b, .int .i64 d] w fun e w' => e = .returned (.bool true) ∧ Below w.heap.size w w' := by
  clear _hb _hd
  by_cases h1 : b < 0
  · have d1 : decide (b < 0) = true := decide_eq_true h1
    go_enter Try.func5, Try.ntmps5
    go_wp2_with fail
    ( refine (known_walk _).mono ?_ ; rintro e w2 ⟨rfl, hb2⟩ ; go_wp2_with fail ; go_ret ; exact ⟨rfl, bel_then (bel1 w _) hb2⟩)
  · have d1 : decide (b < 0) = false := decide_eq_false h1
    by_cases h2 : 15 < b
    · have d2 : decide (15 < b) = true := decide_eq_true h2
      go_enter Try.func5, Try.ntmps5
      go_wp2_with fail
      ( refine (known_walk _).mono ?_ ; rintro e w2 ⟨rfl, hb2⟩ ; go_wp2_with fail ; go_ret ; exact ⟨rfl, bel_then (bel1 w _) hb2⟩)
    · have d2 : decide (15 < b) = false := decide_eq_false h2
      by_cases h3 : d < 0
      · have d3 : decide (d < 0) = true := decide_eq_true h3
        go_enter Try.func5, Try.ntmps5
        go_wp2_with fail
        ( refine (known_walk _).mono ?_ ; rintro e w2 ⟨rfl, hb2⟩ ; go_wp2_with fail ; go_ret ; exact ⟨rfl, bel_then (bel1 w _) hb2⟩)
      · have d3 : decide (d < 0) = false := decide_eq_false h3
        by_cases h4 : 15 < d
        · have d4 : decide (15 < d) = true := decide_eq_true h4
          go_enter Try.func5, Try.ntmps5
          go_wp2_with fail
          ( refine (known_walk _).mono ?_ ; rintro e w2 ⟨rfl, hb2⟩ ; go_wp2_with fail ; go_ret ; exact ⟨rfl, bel_then (bel1 w _) hb2⟩)
        · have d4 : decide (15 < d) = false := decide_eq_false h4
          obtain ⟨jb, rfl⟩ := Int.eq_ofNat_of_zero_le (show 0 ≤ b by omega)
          obtain ⟨jd, rfl⟩ := Int.eq_ofNat_of_zero_le (show 0 ≤ d by omega)
          have hjb : jb < 16 := by omega
          have hjd : jd < 16 := by omega
          obtain ⟨p, hp⟩ : ∃ p, p = c.r jb := ⟨_, rfl⟩
          obtain ⟨q, hq⟩ : ∃ q, q = c.r jd := ⟨_, rfl⟩
          have hpb : 0 ≤ p ∧ p < 4294967296 := by rw [hp]; exact hk.r jb
          have hqb : 0 ≤ q ∧ q < 4294967296 := by rw [hq]; exact hk.r jd
          have RP := Lib.hid (reg_cell c w jb hjb hp)
          have RQ := Lib.hid (reg_cell c w jd hjd hq)
          have HB : Hid (0 ≤ (jb : Int) ∧ (jb : Int) ≤ 15) := ⟨by omega, by omega⟩
          have HD : Hid (0 ≤ (jd : Int) ∧ (jd : Int) ≤ 15) := ⟨by omega, by omega⟩
          have hstep : c.step (wordR (ki5 jb jd)) = (c.sub p q, Ev.none) := by rw [k5_step c HB.out HD.out, hp, hq]; rfl
          have HST := Lib.hid hstep
          have H0 := (Sep.nil w).alloc c.cells 25
          clear hp hq hstep h1 h2 h3 h4
          go_enter Try.func5, Try.ntmps5
          go_wp2_with fail
          refine wp_region_def [([0, 1, 2, 3], 4), ([], 5)] [6, 7, 8] [⟨9, 11, 7, 25, 37, Cpu.zero.cells⟩, ⟨10, 12, 8, 28, 38, Ev.none.cells⟩] (by kernel_rfl) (by kernel_rfl) (by kernel_rfl) (by kernel_rfl) rfl ?_
          intro w1 hb1
          have H1 := H0.bel hb1
          have B1 := Lib.hid (bel_then (bel1 w (.cells c.cells 25)) hb1)
          have q1 := fun x => ((H1.at 0 rfl).laterB x).loads (P := Try.prog) Try.underlying25 rfl (by kernel_rfl)
          ( refine def_seg ?_ ; simp only [pickOps, nth] ; (go_big_quiet_want; refine quiet_row 25 (.tmp 3) rfl rfl q1 ?_; go_big_quiet_on) ; simp only [Act.put, List.setIfInBounds_toArray, List.set_cons_succ, List.set_cons_zero] ; (repeat (go_big_quiet_step (fail))) ; refine wpQuiet_nil ?_ ; apply def_call (.int .u32 (wordR (ki5 jb jd))) ; (simp only [Act.put, List.setIfInBounds_toArray, List.set_cons_succ, List.set_cons_zero]; rfl) ; intro x ; go_wp2_with fail ; refine (word_walk (ki5 jb jd) _ (ki5_ok HB.out HD.out) (by simp [ki5]) (by simp [ki5]; omega) (by simp [ki5])).mono ?_ ; rintro e w' ⟨rfl, hb⟩ ; go_wp2_with fail ; refine def_seg ?_ ; simp only [pickOps, nth] ; refine wpQuiet_nil ?_ ; apply def_call (.tuple #[Cpu.val (c.sub p q), Ev.none.val]) ; (simp only [Act.put, List.setIfInBounds_toArray, List.set_cons_succ, List.set_cons_zero]; rfl) ; intro x ; go_wp2_with fail ; refine (step_quiet (word_of (ki5_may HB.out HD.out)).1 hk HST.out).mono ?_ ; rintro e w' ⟨rfl, hb⟩ ; go_wp2_with fail ; refine def_fin ?_ ; simp only [pickOps, nth] ; (repeat (go_big_quiet_step (fail))) ; refine wpQuiet_nil ?_ ; refine def_post2 ⟨⟨Cpu.zero.val, by kernel_rfl, rfl⟩, by kernel_rfl, rfl, rfl⟩ ⟨⟨Ev.none.val, by kernel_rfl, rfl⟩, by kernel_rfl, rfl, rfl⟩ ?_)
          intro g2 g3 w2 hb2 hg2 hg3 hs2
          simp only [setMany, List.setIfInBounds_toArray, List.set_cons_succ, List.set_cons_zero]
          have H2 := hs2.drop1
          have A2 := hs2.at 0 rfl
          have A2' : At w2 g2 (c.sub p q).cells 25 := A2
          have B2 := Lib.hid (bel_then B1.out hb2)
          have H2' := H1.bel hb2
          have A0 := Lib.hid (H2'.at 0 rfl)
          have AX := Lib.hid A2'
          clear hs2 hb2 hb1 H0 q1 H2 A2 A2' H1 H2'
          go_wp2_with fail
          refine wp_region_mix' [] [0, 1, 2, 3, 4, 5, 6, 7, 8, 9] (by kernel_rfl) (by kernel_rfl) (fun _ _ d _ _ h => by cases d <;> exact h) ?_
          intro w3 hb3
          have l1 := (A0.out.bel hb3).laterCellB (v := .int .u32 p) jb RP.out
          have l2 := (A0.out.bel hb3).laterCellB (v := .int .u32 q) jd RQ.out
          have AX3 := Lib.hid (AX.out.bel hb3)
          have B3 := Lib.hid (bel_then B2.out hb3)
          refine mix_end ?_
          simp only [pickOps, nth]
          (repeat (go_big_quiet_step (fail)))
          refine wpQuiet_nil ?_
          clear l1 l2 hb3
          go_wp2_with fail
          refine (ref_signed _ _ hpb).mono ?_
          rintro e w' ⟨rfl, rfl⟩
          go_wp2_with fail
          refine (ref_signed _ _ hqb).mono ?_
          rintro e w' ⟨rfl, rfl⟩
          have x3 : w3.cell? ⟨g2, 3, none⟩ = some (.int .u32 (W.wd (p - q))) := (AX3.out.cell 3).trans (by simp [Cpu.cells, Cpu.sub, Cpu.set])
          have x5 : w3.cell? ⟨g2, 20, none⟩ = some (.bool (W.out (W.sg p - W.sg q))) := (AX3.out.cell 20).trans (by simp [Cpu.cells, Cpu.sub, Cpu.set])
          go_wp2_with fail
          have AW : At (w3.alloc (.cells (wantCells (W.wd (p - q)) (W.out (W.sg p - W.sg q)) p q) 4)) w3.heap.size (wantCells (W.wd (p - q)) (W.out (W.sg p - W.sg q)) p q) 4 := At.new w3 _ _
          have AY := AX3.out.old (.cells (wantCells (W.wd (p - q)) (W.out (W.sg p - W.sg q)) p q) 4)
          have B4 := bel_then B3.out (bel1 w3 (.cells (wantCells (W.wd (p - q)) (W.out (W.sg p - W.sg q)) p q) 4))
          obtain ⟨w4, hw4⟩ : ∃ w4, w4 = w3.alloc (.cells (wantCells (W.wd (p - q)) (W.out (W.sg p - W.sg q)) p q) 4) := ⟨_, rfl⟩
          unfold wantCells at hw4
          rw [← hw4]
          unfold wantCells at AW AY B4
          rw [← hw4] at AW AY B4
          have HAW : Hid (At w4 w3.heap.size (wantCells (W.wd (p - q)) (W.out (W.sg p - W.sg q)) p q) 4) := AW
          have HAY := Lib.hid AY
          have HB4 := Lib.hid B4
          clear hw4 AW AY B4 x3 x5
          go_loopw [14] (fun i wr => ∃ k : Nat, k ≤ 8 ∧ i = .int .i64 k ∧ Below w4.heap.size w4 wr) (fun i _ => 8 - (intOf i).toNat)
          case atStart => exact ⟨0, Nat.zero_le _, rfl, Below.refl _ _⟩
          case round =>
            obtain ⟨k, hk8, rfl, hbr⟩ := hrel
            have HBR := Lib.hid hbr
            clear hbr
            by_cases hlt : k < 8
            · obtain ⟨bk, hbk⟩ : ∃ bk, bk = (c.sub p q).is k := ⟨_, rfl⟩
              have C1 : Hid ((c.sub p q).cond k = bk) := by unfold Hid; rw [cond_low _ _ (by omega), hbk]
              have C2 : Hid ((c.sub p q).cond ((k : Int) + 8) = !bk) := by unfold Hid; rw [cond_high _ _ (by omega), hbk]
              have CK : Hid ((wantCells (W.wd (p - q)) (W.out (W.sg p - W.sg q)) p q)[k]? = some (.bool bk)) := by unfold Hid; rw [want_cell _ _ _ _ _ hlt, hbk, is_wants c hpb hqb k hlt]
              clear hbk
              go_wp2_with fail
              refine wp_region_mix' [([1, 3, 4, 5, 6, 0], 2), ([7, 8, 10, 11, 13, 14, 15, 16, 9], 12)] [17, 18] (by kernel_rfl) (by kernel_rfl) (fun _ _ d _ _ h => by cases d <;> exact h) ?_
              intro w5 hb5
              have AC5 := (HAY.out.bel HBR.out).bel hb5
              have AW5 := (HAW.out.bel HBR.out).bel hb5
              have B5 := Lib.hid (bel_then (bel_then HB4.out HBR.out) hb5)
              have BR5 := Lib.hid (bel_then HBR.out hb5)
              have l1 := fun x => (AC5.laterB x).loads (P := Try.prog) Try.underlying25 rfl (by kernel_rfl)
              have l2 := AW5.laterCellB (v := .bool bk) k CK.out
              have i1 : (k : Int) < 8 := by omega
              have i2 : (0 : Int) ≤ k := by omega
              refine mix_step ?_
              simp only [pickOps, nth]
              (repeat (go_big_quiet_step (fail)))
              (go_big_quiet_want; refine quiet_row 25 (.tmp 7) rfl rfl l1 ?_; go_big_quiet_on)
              simp only [Act.put, List.setIfInBounds_toArray, List.set_cons_succ, List.set_cons_zero]
              refine wpQuiet_nil ?_
              go_wp2_with fail
              refine (holds_walk (c.sub p q) k _).mono ?_
              rw [C1.out]
              rintro e w6 ⟨rfl, hb6⟩
              have AC6 := AC5.bel hb6
              have AW6 := AW5.bel hb6
              have B6 := Lib.hid (bel_then B5.out hb6)
              have BR6 := Lib.hid (bel_then BR5.out hb6)
              have HB6 := Lib.hid hb6
              clear l1 l2 hb5 hb6 AC5 AW5
              go_wp2_with fail
              have l1 := fun x => (AC6.laterB x).loads (P := Try.prog) Try.underlying25 rfl (by kernel_rfl)
              have l2 := AW6.laterCellB (v := .bool bk) k CK.out
              have i3 : IntKind.i64.wrap ((k : Int) + 8) = k + 8 := by rw [IntKind.wrap_i64]; omega
              refine ⟨HB6.out, mix_step ?_⟩
              simp only [pickOps, nth]
              (repeat (go_big_quiet_step (fail)))
              (go_big_quiet_want; refine quiet_row 25 (.tmp 7) rfl rfl l1 ?_; go_big_quiet_on)
              simp only [Act.put, List.setIfInBounds_toArray, List.set_cons_succ, List.set_cons_zero]
              refine wpQuiet_nil ?_
              clear i3
              go_wp2_with fail
              refine (holds_walk (c.sub p q) (k + 8) _).mono ?_
              rw [C2.out]
              rintro e w7 ⟨rfl, hb7⟩
              have BR7 := Lib.hid (bel_then BR6.out hb7)
              have HB7 := Lib.hid hb7
              clear l1 l2 hb7 AC6 AW6
              go_wp2_with fail
              refine ⟨HB7.out, mix_end ?_⟩
              simp only [pickOps, nth]
              cases bk
              all_goals
                (repeat (go_big_quiet_step (fail)))
                refine wpQuiet_nil ?_
                go_wp2_with fail
                go_roundw
                case rel => exact ⟨k + 1, by omega, by go_num, BR7.out⟩
                case measure => simp [intOf]; omega
            · obtain rfl : k = 8 := by omega
              go_wp2_with fail
              refine (known_walk _).mono ?_
              rintro e w9 ⟨rfl, hb9⟩
              go_wp2_with fail
              go_ret
              exact ⟨rfl, bel_then (bel_then HB4.out HBR.out) hb9⟩

end Go.Proofs.Ytkeaogphaifnmaa
