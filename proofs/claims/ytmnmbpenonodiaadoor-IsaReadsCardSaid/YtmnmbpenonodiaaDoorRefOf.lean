/- Contract of the reference of layer 3: Of. -/
import Derived.Test.YtmnmbpenonodiaaDoorRefBits
import Derived.Test.YtmnmbpenonodiaaDoorRefMay
import Derived.Test.YtmnmbpenonodiaaDoorRiscOps
namespace Go.Proofs.YtmnmbpenonodiaaDoor
set_option linter.unusedVariables false
set_option linter.unusedSimpArgs false
open Go.RowKit

def cnd (u v : Bool) (a b o c m f g n : Int) : List Ins := [⟨0, u, false, a, b, c, o, 0, 0, 0, 0⟩, ⟨1, u, v, a, b, 0, o, m, 0, 0, 0⟩, ⟨2, false, v, a, b, 0, 0, 0, f, 0, 0⟩, ⟨3, false, v, a, b, 0, 0, 0, f, 0, 0⟩, ⟨4, false, v, 0, 0, 0, 0, 0, g, a, 0⟩, ⟨5, false, v, 0, 0, c, 0, 0, 0, a, 0⟩, ⟨6, false, false, 0, 0, 0, 0, 0, 0, a, n⟩]
def cndC (u v : Bool) (a b o c m f g n : Int) : Array Value := #[.int .i64 0, .bool u, .bool false, .int .i64 a, .int .i64 b, .int .i64 c, .int .i64 o, .int .i64 0, .int .i64 0, .int .i64 0, .int .i64 0, .int .i64 1, .bool u, .bool v, .int .i64 a, .int .i64 b, .int .i64 0, .int .i64 o, .int .i64 m, .int .i64 0, .int .i64 0, .int .i64 0,
  .int .i64 2, .bool false, .bool v, .int .i64 a, .int .i64 b, .int .i64 0, .int .i64 0, .int .i64 0, .int .i64 f, .int .i64 0, .int .i64 0, .int .i64 3, .bool false, .bool v, .int .i64 a, .int .i64 b, .int .i64 0, .int .i64 0, .int .i64 0, .int .i64 f, .int .i64 0, .int .i64 0,
  .int .i64 4, .bool false, .bool v, .int .i64 0, .int .i64 0, .int .i64 0, .int .i64 0, .int .i64 0, .int .i64 g, .int .i64 a, .int .i64 0, .int .i64 5, .bool false, .bool v, .int .i64 0, .int .i64 0, .int .i64 c, .int .i64 0, .int .i64 0, .int .i64 0, .int .i64 a, .int .i64 0, .int .i64 6, .bool false, .bool false, .int .i64 0, .int .i64 0, .int .i64 0, .int .i64 0, .int .i64 0, .int .i64 0, .int .i64 a, .int .i64 n]
theorem cndC_is (u v : Bool) (a b o c m f g n : Int) : cndC u v a b o c m f g n = (insRow (cnd u v a b o c m f g n)).toArray := by
  simp [cndC, cnd, insRow, Ins.cells]

theorem cnd_get {x : Int} {u v : Bool} {a b o c m f g n : Int} (hu : u = decide (x / 536870912 % 2 = 1)) (hv : v = decide (x / 268435456 % 2 = 1)) (ha : a = x / 16777216 % 16) (hb : b = x / 1048576 % 16) (ho : o = x / 65536 % 16) (hc : c = x % 16) (hm : m = x % 65536) (hf : f = W.sg (W.ext x 20)) (hg : g = W.sg (W.ext x 24)) (hn : n = x / 16 % 256)
    {k : Nat} (hk : k < 7) : (cnd u v a b o c m f g n)[k]? = some (cand x k) := by
  subst hu hv ha hb ho hc hm hf hg hn
  match k, hk with
  | 0, _ | 1, _ | 2, _ | 3, _ | 4, _ | 5, _ | 6, _ => rfl
  | k + 7, h => exact absurd h (by omega)

/-- the instruction k of the seven, as a whole. -/
theorem ins_cells {w : World} {g : Nat} {L : List Ins} {t : TypeId} (h : At w g (insRow L).toArray t) {k : Nat} {i : Ins} (hi : L[k]? = some i) : ∀ j v, i.cells.toList[j]? = some v → w.cell? ⟨g, k * 11 + j, none⟩ = some v := by
  intro j v hv
  have hj : j < 11 := by
    obtain ⟨h, _⟩ := List.getElem?_eq_some_iff.1 hv
    simpa [Ins.cells] using h
  have := insRow_at L k i j hi hj
  rw [Nat.mul_comm] at this
  rw [h.cell, List.getElem?_toArray, this]; simpa using hv

def RefOfIs (x : Int) (w : World) (e : Ending) (w' : World) : Prop :=
  e = .returned (.tuple #[(if good (flds x) then (flds x).val else Ins.zero.val), .bool (good (flds x))]) ∧ Below w.heap.size w w'
theorem refof_yes {x : Int} {w w' : World} {e : Ending} {i : Ins} (hg : good (flds x) = true) (hi : i = flds x) (he : e = .returned (.tuple #[i.val, .bool true])) (hb : Below w.heap.size w w') : RefOfIs x w e w' := by
  subst hi; unfold RefOfIs; rw [hg]; exact ⟨he, hb⟩
theorem refof_no {x : Int} {w w' : World} {e : Ending} (hg : good (flds x) = false) (he : e = .returned (.tuple #[Ins.zero.val, .bool false])) (hb : Below w.heap.size w w') : RefOfIs x w e w' := by
  unfold RefOfIs; rw [hg]; exact ⟨he, hb⟩

set_option maxRecDepth 100000 in
set_option maxHeartbeats 8000000 in
theorem refof_walk (x : Int) (w : World) (hx : 0 ≤ x ∧ x < 4294967296) : Calls Tryd.prog 16 #[.int .u32 x] w (RefOfIs x w) := by
  have HX := Lib.hid hx
  obtain ⟨y1, h1⟩ : ∃ y, y = x / 536870912 % 2 := ⟨_, rfl⟩
  obtain ⟨y2, h2⟩ : ∃ y, y = x / 268435456 % 2 := ⟨_, rfl⟩
  obtain ⟨a, h3⟩ : ∃ y, y = x / 16777216 % 16 := ⟨_, rfl⟩
  obtain ⟨b, h4⟩ : ∃ y, y = x / 1048576 % 16 := ⟨_, rfl⟩
  obtain ⟨o, h5⟩ : ∃ y, y = x / 65536 % 16 := ⟨_, rfl⟩
  obtain ⟨y6, h6⟩ : ∃ y, y = x % 1048576 := ⟨_, rfl⟩
  obtain ⟨f, h7⟩ : ∃ y, y = W.sg (W.ext x 20) := ⟨_, rfl⟩
  obtain ⟨c, h8⟩ : ∃ y, y = x % 16 := ⟨_, rfl⟩
  obtain ⟨m, h9⟩ : ∃ y, y = x % 65536 := ⟨_, rfl⟩
  obtain ⟨y10, h10⟩ : ∃ y, y = x % 16777216 := ⟨_, rfl⟩
  obtain ⟨g, h11⟩ : ∃ y, y = W.sg (W.ext x 24) := ⟨_, rfl⟩
  obtain ⟨n, h12⟩ : ∃ y, y = x / 16 % 256 := ⟨_, rfl⟩
  have C1 := Lib.hid (fun w => show Calls Tryd.prog 28 #[.int .u32 x, .int .i64 29, .int .i64 1] w fun e w' => e = .returned (.int .i64 y1) ∧ w = w' from by rw [h1]; exact bits_ref x 29 1 w hx (f' := 29) (s' := 1) (by simp))
  have C2 := Lib.hid (fun w => show Calls Tryd.prog 28 #[.int .u32 x, .int .i64 28, .int .i64 1] w fun e w' => e = .returned (.int .i64 y2) ∧ w = w' from by rw [h2]; exact bits_ref x 28 1 w hx (f' := 28) (s' := 1) (by simp))
  have C3 := Lib.hid (fun w => show Calls Tryd.prog 28 #[.int .u32 x, .int .i64 24, .int .i64 4] w fun e w' => e = .returned (.int .i64 a) ∧ w = w' from by rw [h3]; exact bits_ref x 24 4 w hx (f' := 24) (s' := 4) (by simp))
  have C4 := Lib.hid (fun w => show Calls Tryd.prog 28 #[.int .u32 x, .int .i64 20, .int .i64 4] w fun e w' => e = .returned (.int .i64 b) ∧ w = w' from by rw [h4]; exact bits_ref x 20 4 w hx (f' := 20) (s' := 4) (by simp))
  have C5 := Lib.hid (fun w => show Calls Tryd.prog 28 #[.int .u32 x, .int .i64 16, .int .i64 4] w fun e w' => e = .returned (.int .i64 o) ∧ w = w' from by rw [h5]; exact bits_ref x 16 4 w hx (f' := 16) (s' := 4) (by simp))
  have C6 := Lib.hid (fun w => show Calls Tryd.prog 28 #[.int .u32 x, .int .i64 0, .int .i64 20] w fun e w' => e = .returned (.int .i64 y6) ∧ w = w' from by rw [h6]; have hh := bits_ref x 0 20 w hx (f' := 0) (s' := 20) (by simp); simpa using hh)
  have C7 := Lib.hid (fun w => show Calls Tryd.prog 29 #[.int .i64 y6, .int .i64 20] w fun e w' => e = .returned (.int .i64 f) ∧ w = w' from by rw [h7, ext20_is, ← h6]; exact signed20_ref y6 w (by omega))
  have C8 := Lib.hid (fun w => show Calls Tryd.prog 28 #[.int .u32 x, .int .i64 0, .int .i64 4] w fun e w' => e = .returned (.int .i64 c) ∧ w = w' from by rw [h8]; have hh := bits_ref x 0 4 w hx (f' := 0) (s' := 4) (by simp); simpa using hh)
  have C9 := Lib.hid (fun w => show Calls Tryd.prog 28 #[.int .u32 x, .int .i64 0, .int .i64 16] w fun e w' => e = .returned (.int .i64 m) ∧ w = w' from by rw [h9]; have hh := bits_ref x 0 16 w hx (f' := 0) (s' := 16) (by simp); simpa using hh)
  have C10 := Lib.hid (fun w => show Calls Tryd.prog 28 #[.int .u32 x, .int .i64 0, .int .i64 24] w fun e w' => e = .returned (.int .i64 y10) ∧ w = w' from by rw [h10]; have hh := bits_ref x 0 24 w hx (f' := 0) (s' := 24) (by simp); simpa using hh)
  have C11 := Lib.hid (fun w => show Calls Tryd.prog 29 #[.int .i64 y10, .int .i64 24] w fun e w' => e = .returned (.int .i64 g) ∧ w = w' from by rw [h11, ext24_is, ← h10]; exact signed24_ref y10 w (by omega))
  have C12 := Lib.hid (fun w => show Calls Tryd.prog 28 #[.int .u32 x, .int .i64 4, .int .i64 8] w fun e w' => e = .returned (.int .i64 n) ∧ w = w' from by rw [h12]; exact bits_ref x 4 8 w hx (f' := 4) (s' := 8) (by simp))
  obtain ⟨u, hu⟩ : ∃ u, u = (y1 == 1) := ⟨_, rfl⟩
  obtain ⟨v, hv⟩ : ∃ v, v = (y2 == 1) := ⟨_, rfl⟩
  have HG := Lib.hid (fun k (hk : k < 7) => cnd_get (u := u) (v := v) (by rw [hu, h1, Bool.eq_iff_iff]; simp) (by rw [hv, h2, Bool.eq_iff_iff]; simp) h3 h4 h5 h8 h9 h7 h11 h12 hk)
  have HU := Lib.hid hu
  have HV := Lib.hid hv
  clear h1 h2 h3 h4 h5 h6 h7 h8 h9 h10 h11 h12 hu hv hx
  have S1 := (Sep.nil w).alloc2 Ins.zero.cells (cndC u v a b o c m f g n) 29 29
  have HS1 := Lib.hid S1
  have HB1 := Lib.hid (bel2 w (.cells Ins.zero.cells 29) (.cells (cndC u v a b o c m f g n) 29))
  clear S1
  go_enter Tryd.func16, Tryd.ntmps16
  go_wp2_with fail
  ( refine (C1.out _).mono ?_ ; rintro e w' ⟨rfl, rfl⟩)
  go_wp2_with fail
  ( refine (C2.out _).mono ?_ ; rintro e w' ⟨rfl, rfl⟩)
  rw [← HU.out]
  go_wp2_with fail
  ( refine (C3.out _).mono ?_ ; rintro e w' ⟨rfl, rfl⟩)
  (try rw [← HV.out])
  go_wp2_with fail
  ( refine (C4.out _).mono ?_ ; rintro e w' ⟨rfl, rfl⟩)
  go_wp2_with fail
  ( refine (C5.out _).mono ?_ ; rintro e w' ⟨rfl, rfl⟩)
  go_wp2_with fail
  ( refine (C6.out _).mono ?_ ; rintro e w' ⟨rfl, rfl⟩)
  go_wp2_with fail
  ( refine (C7.out _).mono ?_ ; rintro e w' ⟨rfl, rfl⟩)
  go_wp2_with fail
  ( refine (C8.out _).mono ?_ ; rintro e w' ⟨rfl, rfl⟩)
  go_wp2_with fail
  ( refine (C9.out _).mono ?_ ; rintro e w' ⟨rfl, rfl⟩)
  go_wp2_with fail
  ( refine (C10.out _).mono ?_ ; rintro e w' ⟨rfl, rfl⟩)
  go_wp2_with fail
  ( refine (C11.out _).mono ?_ ; rintro e w' ⟨rfl, rfl⟩)
  go_wp2_with fail
  ( refine (C8.out _).mono ?_ ; rintro e w' ⟨rfl, rfl⟩)
  go_wp2_with fail
  ( refine (C12.out _).mono ?_ ; rintro e w' ⟨rfl, rfl⟩)
  clear C1 C2 C3 C4 C5 C6 C7 C8 C9 C10 C11 C12
  go_wp2_with fail
  go_loopw [11] (fun i wr => ∃ k : Nat, k ≤ 7 ∧ i = .int .i64 k ∧ Sep wr [(w.heap.size + 1, cndC u v a b o c m f g n, 29), (w.heap.size, Ins.zero.cells, 29)] ∧ Below w.heap.size w wr ∧ (∀ j, j < k → ¬ (good (flds x) = true ∧ (flds x).form = (j : Nat)))) (fun i _ => 7 - (intOf i).toNat)
  case atStart => exact ⟨0, by decide, rfl, HS1.out, HB1.out, fun j hj => absurd hj (Nat.not_lt_zero _)⟩
  case round =>
    obtain ⟨k, hk, rfl, hs, hb, hno⟩ := hrel
    have HS := Lib.hid hs
    have HB := Lib.hid hb
    have HN := Lib.hid hno
    clear hs hb hno
    by_cases hlt : k < 7
    · have hi := HG.out k hlt
      have hA := HS.out.at 0 rfl
      rw [cndC_is] at hA
      have HC := Lib.hid (ins_cells hA hi)
      obtain ⟨i, hie⟩ : ∃ i, i = cand x k := ⟨_, rfl⟩
      rw [← hie] at HC
      have HI := Lib.hid hie
      have i1 : (k : Int) < 7 := by omega
      have i2 : (0 : Int) ≤ k := by omega
      clear hi hA hie
      go_wp2_with (refine wpList_load_mid rfl 29 (.tmp 76) rfl _ _ rfl i.cells.toList _ HC.out Tryd.underlying29 rfl (by kernel_rfl) ?_)
      refine (may_all i _).mono ?_
      rintro e w2 ⟨r, rfl, hr, hb2⟩
      have HR := Lib.hid hr
      have S2 := HS.out.bel hb2
      have HC2 := Lib.hid (fun j v' hj => by
        have hh := HC.out j v' hj
        exact (hb2.cell (p := ⟨w.heap.size + 1, k * 11 + j, none⟩) (by have := (HS.out.at 0 rfl).lt; exact this)).trans hh)
      have HS2 := Lib.hid S2
      have HB2 := Lib.hid (bel_then HB.out hb2)
      clear hr S2 hb2
      cases r with
      | false =>
        go_wp2_with fail
        go_roundw
        case rel =>
          refine ⟨k + 1, by omega, by go_num, HS2.out, HB2.out, fun j hj => ?_⟩
          rcases Nat.lt_or_ge j k with h | h
          · exact HN.out j h
          · obtain rfl : j = k := by omega
            rintro ⟨h1, h2⟩
            have := (cand_yes HX.out h1 h2).1
            rw [← HI.out] at this
            exact absurd (HR.out.2 this) (by simp)
        case measure => simp [intOf]; omega
      | true =>
        have hm := HR.out.1 rfl
        have HM := Lib.hid hm
        have HW := Lib.hid (fun w => word_walk i w hm.ok ⟨hm.im.1, by have := hm.im; omega⟩ ⟨hm.c.1, by have := hm.c; omega⟩ hm.form)
        clear hm
        have d0 : w2.cell? ⟨w.heap.size + 1, k * 11, none⟩ = some (.int .i64 i.form) := HC2.out 0 _ rfl
        have d1 : w2.cell? ⟨w.heap.size + 1, k * 11 + 1, none⟩ = some (.bool i.u) := HC2.out 1 _ rfl
        have d2 : w2.cell? ⟨w.heap.size + 1, k * 11 + 2, none⟩ = some (.bool i.v) := HC2.out 2 _ rfl
        have d3 : w2.cell? ⟨w.heap.size + 1, k * 11 + 3, none⟩ = some (.int .i64 i.a) := HC2.out 3 _ rfl
        have d4 : w2.cell? ⟨w.heap.size + 1, k * 11 + 4, none⟩ = some (.int .i64 i.b) := HC2.out 4 _ rfl
        have d5 : w2.cell? ⟨w.heap.size + 1, k * 11 + 5, none⟩ = some (.int .i64 i.c) := HC2.out 5 _ rfl
        have d6 : w2.cell? ⟨w.heap.size + 1, k * 11 + 6, none⟩ = some (.int .i64 i.op) := HC2.out 6 _ rfl
        have d7 : w2.cell? ⟨w.heap.size + 1, k * 11 + 7, none⟩ = some (.int .i64 i.im) := HC2.out 7 _ rfl
        have d8 : w2.cell? ⟨w.heap.size + 1, k * 11 + 8, none⟩ = some (.int .i64 i.off) := HC2.out 8 _ rfl
        have d9 : w2.cell? ⟨w.heap.size + 1, k * 11 + 9, none⟩ = some (.int .i64 i.cond) := HC2.out 9 _ rfl
        have d10 : w2.cell? ⟨w.heap.size + 1, k * 11 + 10, none⟩ = some (.int .i64 i.n) := HC2.out 10 _ rfl
        go_wp2_with fail
        refine (HW.out _).mono ?_
        rintro e w3 ⟨rfl, hb3⟩
        have HS3 := Lib.hid (HS2.out.bel hb3)
        have HB3 := Lib.hid (bel_then HB2.out hb3)
        have HC3 := Lib.hid (fun j v' hj => (hb3.cell (p := ⟨w.heap.size + 1, k * 11 + j, none⟩) (by have := (HS2.out.at 0 rfl).lt; exact this)).trans (HC2.out j v' hj))
        clear hb3 d0 d1 d2 d3 d4 d5 d6 d7 d8 d9 d10
        by_cases hw : wordR i = x
        · have hgf := cand_no (x := x) (k := k) (by omega) (by rw [← HI.out]; exact HM.out) (by rw [← HI.out]; exact hw)
          have HE := Lib.hid (show good (flds x) = true ∧ i = flds x from ⟨hgf.1, by rw [HI.out]; exact cand_is HX.out hgf.1 hgf.2⟩)
          have e1 : (wordR i == x) = true := by rw [hw]; simp
          have E1 := Lib.hid hw
          clear hgf hw
          go_wp2_with (first | (refine wpList_load_mid rfl 29 (.tmp 90) rfl _ _ rfl i.cells.toList _ HC3.out Tryd.underlying29 rfl (by kernel_rfl) ?_) | (refine store_sep rfl 29 (.tmp 2) (.tmp 91) rfl HS3.out 1 rfl rfl rfl (by kernel_rfl) rfl ?_ ?_; rfl; intro w5 S5 k5 s5))
          refine bodyPost_ret (res_cell_tmp rfl rfl (S5.at 1 rfl) Tryd.underlying29 rfl (by kernel_rfl)) rfl (refof_yes HE.out.1 HE.out.2 rfl ?_)
          exact bel_ke HB3.out k5 (Nat.le_refl _)
        · have e1 : (wordR i == x) = false := by simpa using hw
          have E1 := Lib.hid hw
          clear hw
          go_wp2_with fail
          go_roundw
          case rel =>
            refine ⟨k + 1, by omega, by go_num, HS3.out, HB3.out, fun j hj => ?_⟩
            rcases Nat.lt_or_ge j k with h | h
            · exact HN.out j h
            · obtain rfl : j = k := by omega
              rintro ⟨h1, h2⟩
              have := (cand_yes HX.out h1 h2).2
              rw [← HI.out] at this
              exact E1.out this
          case measure => simp [intOf]; omega
    · obtain rfl : k = 7 := by omega
      have HNG : Hid (good (flds x) = false) := by
        cases hg : good (flds x) with
        | false => rfl
        | true =>
          have hb := (flds_bd HX.out).1
          exact absurd ⟨hg, by omega⟩ (HN.out (flds x).form.toNat (by omega))
      go_wp2_with (refine store_sep rfl 29 (.tmp 2) (.tmp 92) rfl HS.out 1 rfl rfl rfl (by kernel_rfl) rfl ?_ ?_; rfl; intro w3 S3 k3 s3)
      refine bodyPost_ret (res_cell_tmp rfl rfl (S3.at 1 rfl) Tryd.underlying29 rfl (by kernel_rfl)) rfl (refof_no HNG.out rfl ?_)
      exact bel_ke HB.out k3 (Nat.le_refl _)

end Go.Proofs.YtmnmbpenonodiaaDoor
