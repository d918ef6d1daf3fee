/- The statement IsaValues, walked. -/
import Derived.Test.YtmnmbpenonodiaaDoorIsaKnown
import Derived.Test.YtmnmbpenonodiaaDoorRiscNum
import Derived.Test.YtmnmbpenonodiaaDoorRefMay
namespace Go.Proofs.YtmnmbpenonodiaaDoor
set_option linter.unusedVariables false
set_option linter.unusedSimpArgs false
open Go.RowKit

/-- what a value of an instruction with a number is. -/
structure VOk (i : Ins) (y : Int) : Prop where
  odd : i.form = 1 → i.u = true → i.op = 0 → y = i.im * 65536
  neg : i.form = 1 → ¬ (i.u = true ∧ i.op = 0) → i.v = true → y = i.im + 4294901760
  pos : i.form = 1 → ¬ (i.u = true ∧ i.op = 0) → i.v = false → y = i.im
  no : i.form ≠ 1 → y = 0

theorem or_top (k : Nat) (h : k ≤ 65535) : bits .or .u32 (k : Int) 4294901760 = (k : Int) + 4294901760 := by
  have e := u32_or_nat 4294901760 k (by decide) (by omega)
  have j := nat_join 16 4294901760 k (by decide) (by omega)
  have c := u32_or_nat k 4294901760 (by omega) (by decide)
  rw [show ((4294901760 : Nat) : Int) = 4294901760 from rfl] at c
  rw [c, Nat.or_comm, j]
  simp; omega

theorem v_ok {i : Ins} (h : i.May) : VOk i i.value := by
  obtain ⟨form, u, v, a, b, c, op, im, off, cond, n⟩ := i
  have hi := h.im
  simp only at hi
  obtain ⟨k, rfl⟩ := Int.eq_ofNat_of_zero_le hi.1
  have e : ((k : Nat) : Int) % 4294967296 = k := by omega
  have ho := or_top k (by omega)
  constructor <;> simp only [] <;> intro h1
  · intro h2 h3
    subst h1 h2 h3
    simp [Ins.value]
    omega
  · intro h2 h3
    subst h1 h3
    simp only [Ins.value, if_neg h2, if_true, e, ho]
  · intro h2 h3
    subst h1 h3
    simp [Ins.value, h2, e]
  · simp [Ins.value, h1]

set_option maxRecDepth 20000 in
set_option maxHeartbeats 4000000 in
theorem values_law (i : Ins) (w : World) (hL : Laid w) (hn : i.Ok) :
    Calls Tryd.prog 4 #[i.val] w fun e w' => e = .returned (.bool true) ∧ Below w.heap.size w w' := by
  have HL := Lib.hid hL
  have HMay := Lib.hid (may_all i)
  have HVal := Lib.hid (value_walk i)
  have H0 := (Sep.nil w).alloc i.cells 29
  have B0 := Lib.hid (bel1 w (.cells i.cells 29))
  clear hL hn
  by_cases hm : i.May
  · have HM := Lib.hid hm
    have HV := Lib.hid (v_ok hm)
    clear hm
    go_enter Tryd.func4, Tryd.ntmps4
    go_wp2_with (refine load_sep rfl 29 (.tmp 1) rfl H0 0 rfl rfl Tryd.underlying29 rfl (by kernel_rfl) ?_)
    refine (HMay.out _).mono ?_
    rintro e w1 ⟨r, rfl, hr, hb⟩
    obtain rfl : r = true := hr.2 HM.out
    have H1 := H0.bel hb
    have B1 := Lib.hid (bel_then B0.out hb)
    clear hb hr H0
    go_wp2_with (refine load_sep rfl 29 (.tmp 1) rfl H1 0 rfl rfl Tryd.underlying29 rfl (by kernel_rfl) ?_)
    refine (HVal.out _).mono ?_
    obtain ⟨y, hy⟩ : ∃ y, y = i.value := ⟨_, rfl⟩
    have HV' := Lib.hid (hy ▸ HV.out : VOk i y)
    rw [← hy]
    clear hy HV
    rintro e w2 ⟨rfl, hb⟩
    have H2 := H1.bel hb
    have B3 := Lib.hid (bel_then B1.out hb)
    clear hb H1
    have c0 : w2.cell? ⟨w.heap.size, 0, none⟩ = some (.int .i64 i.form) := ((H2.at 0 rfl).cell 0).trans rfl
    have c1 : w2.cell? ⟨w.heap.size, 1, none⟩ = some (.bool i.u) := ((H2.at 0 rfl).cell 1).trans rfl
    have c2 : w2.cell? ⟨w.heap.size, 2, none⟩ = some (.bool i.v) := ((H2.at 0 rfl).cell 2).trans rfl
    have c6 : w2.cell? ⟨w.heap.size, 6, none⟩ = some (.int .i64 i.op) := ((H2.at 0 rfl).cell 6).trans rfl
    have c7 : w2.cell? ⟨w.heap.size, 7, none⟩ = some (.int .i64 i.im) := ((H2.at 0 rfl).cell 7).trans rfl
    have hi := HM.out.im
    have HV := HV'.out
    clear HV' H2 HMay HVal
    obtain ⟨form, u, v, a, b, c, op, im, off, cond, n⟩ := i
    simp only at c0 c1 c2 c6 c7 hi
    have hi1 := hi.1
    have hi2 := hi.2
    clear hi
    by_cases hf : form = 1
    · subst hf
      by_cases hu : u = true ∧ op = 0
      · obtain ⟨rfl, rfl⟩ := hu
        obtain rfl := HV.odd rfl rfl rfl
        clear HV
        go_wp2_with fail
        ( refine (known_walk _ (HL.out.bel B3.out)).mono ?_ ; rintro e w7 ⟨rfl, hb⟩ ; have B7 := Lib.hid (bel_then B3.out hb) ; clear hb ; go_wp2_with fail ; go_ret ; exact ⟨rfl, B7.out⟩)
      · have hv := HV.neg rfl hu
        have hw := HV.pos rfl hu
        simp only at hv hw
        clear HV
        cases v
        · obtain rfl := hw rfl
          clear hv hw
          cases u
          · clear hu
            go_wp2_with fail
            ( refine (known_walk _ (HL.out.bel B3.out)).mono ?_ ; rintro e w7 ⟨rfl, hb⟩ ; have B7 := Lib.hid (bel_then B3.out hb) ; clear hb ; go_wp2_with fail ; go_ret ; exact ⟨rfl, B7.out⟩)
          · have ho : op ≠ 0 := fun h => hu ⟨rfl, h⟩
            clear hu
            go_wp2_with fail
            ( refine (known_walk _ (HL.out.bel B3.out)).mono ?_ ; rintro e w7 ⟨rfl, hb⟩ ; have B7 := Lib.hid (bel_then B3.out hb) ; clear hb ; go_wp2_with fail ; go_ret ; exact ⟨rfl, B7.out⟩)
        · obtain rfl := hv rfl
          clear hv hw
          cases u
          · clear hu
            go_wp2_with fail
            ( refine (known_walk _ (HL.out.bel B3.out)).mono ?_ ; rintro e w7 ⟨rfl, hb⟩ ; have B7 := Lib.hid (bel_then B3.out hb) ; clear hb ; go_wp2_with fail ; go_ret ; exact ⟨rfl, B7.out⟩)
          · have ho : op ≠ 0 := fun h => hu ⟨rfl, h⟩
            clear hu
            go_wp2_with fail
            ( refine (known_walk _ (HL.out.bel B3.out)).mono ?_ ; rintro e w7 ⟨rfl, hb⟩ ; have B7 := Lib.hid (bel_then B3.out hb) ; clear hb ; go_wp2_with fail ; go_ret ; exact ⟨rfl, B7.out⟩)
    · obtain rfl := HV.no hf
      clear HV c1 c2 c6 c7
      go_wp2_with fail
      ( refine (known_walk _ (HL.out.bel B3.out)).mono ?_ ; rintro e w7 ⟨rfl, hb⟩ ; have B7 := Lib.hid (bel_then B3.out hb) ; clear hb ; go_wp2_with fail ; go_ret ; exact ⟨rfl, B7.out⟩)
  · have HM := Lib.hid hm
    clear hm
    go_enter Tryd.func4, Tryd.ntmps4
    go_wp2_with (refine load_sep rfl 29 (.tmp 1) rfl H0 0 rfl rfl Tryd.underlying29 rfl (by kernel_rfl) ?_)
    refine (HMay.out _).mono ?_
    rintro e w1 ⟨r, rfl, hr, hb⟩
    obtain rfl : r = false := by cases r; rfl; exact (HM.out (hr.1 rfl)).elim
    have B3 := Lib.hid (bel_then B0.out hb)
    clear hb hr H0
    go_wp2_with fail
    ( refine (known_walk _ (HL.out.bel B3.out)).mono ?_ ; rintro e w7 ⟨rfl, hb⟩ ; have B7 := Lib.hid (bel_then B3.out hb) ; clear hb ; go_wp2_with fail ; go_ret ; exact ⟨rfl, B7.out⟩)

end Go.Proofs.YtmnmbpenonodiaaDoor
