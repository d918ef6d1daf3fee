/- The statement ScanEnds, walked. -/
import Derived.Test.YtdgiijidgjagbaaScanEnds0
import Derived.Lib.AppendStr
namespace Go.Proofs.Ytdgiijidgjagbaa
set_option linter.unusedVariables false
set_option linter.unusedSimpArgs false
open Go.RowKit

/-- the symbols of a source, as they are collected. -/
def symsTo (S : List Int) (m : Nat) : List Value := symsC ((List.range m).map fun j => (gets (newS S) j).sym)
theorem symsTo_succ (S : List Int) (m : Nat) : symsTo S (m + 1) = symsTo S m ++ symC (gets (newS S) m).sym := by unfold symsTo; rw [range_snoc, symsC_snoc]
theorem en_start {w w1 : World} {g : Nat} {l : List Int} (hs : Scn (· < w.heap.size) w1 g (newS l)) (hb : Below w.heap.size w w1) : EnW w (· < w.heap.size) w1 g (gets (newS l) 0) (.slice none 0 0) 0 (symsTo l 0) :=
  ⟨hs, ⟨rfl, .inl ⟨rfl, rfl⟩⟩, (fun b hb => by cases hb), fun _ h => h, fun i hi => Nat.lt_of_lt_of_le hi hb.size, hb⟩
theorem symC_lit {v p u i : Int} {t : List UInt8} {tb : ByteArray} (h : (⟨t.toArray⟩ : ByteArray) = tb) : symC ⟨v, p, u, i, t⟩ = [.int .i64 v, .int .i64 p, .int .i32 u, .int .i64 i, .string tb] := by unfold symC nameV; rw [h]

/-- two rows beside each other: symbols, and bytes. -/
structure BdW (w0 wr : World) (A : Value) (m : Nat) (ys : List Value) (B : Value) (xs : List Int) : Prop where
  a : wr.ownsRow w0.heap.size 30 5 A m ys
  b : wr.ownsRow w0.heap.size 5 1 B xs.length (xs.map (Value.int .u8))
  bel : Below w0.heap.size w0 wr
variable {w0 wr wz : World} {A B : Value} {m : Nat} {ys : List Value} {xs : List Int}
theorem BdW.on (h : BdW w0 wr A m ys B xs) (k : Below wr.heap.size wr wz) : BdW w0 wz A m ys B xs :=
  ⟨ownsRow_ke h.a (Ke.below Non k) (fun _ _ h => h), ownsRow_ke h.b (Ke.below Non k) (fun _ _ h => h), bel_then h.bel k⟩
/-- what an append to the bytes may touch. -/
def ByA (w0 : World) (A : Value) : Nat → Prop := fun i => w0.heap.size ≤ i ∧ A.ownBlock ≠ some i
theorem BdW.ke (h : BdW w0 wr A m ys B xs) (hg : wr.grownBy wz B.ownBlock) : Ke (ByA w0 A) wr wz :=
  (Ke.ofGrown hg).mono (fun i _ e => ⟨(h.b.lt i e).1, fun e' => ownsRow_apart5 h.a h.b (by decide) i e' e⟩)
theorem BdW.grow (h : BdW w0 wr A m ys B xs) {B' : Value} {xs' : List Int} (own : wz.ownsRow w0.heap.size 5 1 B' xs'.length (xs'.map (Value.int .u8))) (hg : wr.grownBy wz B.ownBlock) : BdW w0 wz A m ys B' xs' :=
  ⟨ownsRow_ke h.a (h.ke hg) (fun b hb e => e.2 hb), own, grow_bel h.bel h.b hg⟩
theorem comB_cells : Lib.strCells ⟨#[32, 40, 42, 32, 99, 32, 40, 42, 32, 100, 32, 42, 41, 32, 42, 41, 32]⟩ = comB.map (Value.int .u8) := by kernel_rfl
theorem symsTo_at (S : List Int) (m j : Nat) (hj : j < m) (q : Nat) (hq : q < 5) : (symsTo S m)[j * 5 + q]? = (symC (gets (newS S) j).sym)[q]? := symsC_at (fun j => (gets (newS S) j).sym) m j hj q hq
/-- the symbols' cells. -/
theorem syms_cells {w : World} {base : Nat} {a : Option Addr} {c : Nat} {S : List Int} {m : Nat} (h : w.ownsRow base 30 5 (.slice a m c) m (symsTo S m)) (h0 : 0 < m) : ∃ b, a = some ⟨b, 0, none⟩ ∧ base ≤ b ∧ b < w.heap.size ∧ ∀ j, j < m → ∀ q v, q < 5 → (symC (gets (newS S) j).sym)[q]? = some v → w.cell? ⟨b, j * 5 + q, none⟩ = some v := by
  obtain ⟨b, h1, h2, h3, h4⟩ := row_cells h (by unfold symsTo; rw [symsC_len, List.length_map, List.length_range]; omega)
  exact ⟨b, h1, h2, h3, fun j hj q v hq hv => h4 _ _ (by rw [symsTo_at S m j hj q hq]; exact hv)⟩

theorem len_app (A B : List Int) : (A ++ B).length = A.length + B.length := List.length_append
theorem et_u8e : ET Try.prog 23 5 (.int .u8 0) 1 1 := ET.of Try.underlying23 (by kernel_rfl) (by decide) (by decide)
theorem info_u8 : (Try.prog.info? 5).map (fun i => (i.zero, i.size, i.bytes)) = some (some (.int .u8 0), 1, 1) := by kernel_rfl
theorem ke_cell {G : Nat → Prop} {w w' : World} {p : Addr} {v : Value} (h : Ke G w w') (hp : p.block < w.heap.size) (hG : ¬ G p.block) (hv : w.cell? p = some v) : w'.cell? p = some v := by
  unfold World.cell? at hv ⊢
  rw [h.block p.block hp hG]; exact hv
/-- a piece of a source. -/
theorem cut_rdc {w : World} {a : Option Addr} {c : Nat} {l : List Int} (h : RdI .u8 w a c l) (h0 : 0 < l.length) (q z : Nat) (hqz : q ≤ z) (hz : z ≤ l.length) :
    (∀ W, (Instr.slice 23 (.slice a l.length c) (some (.int .i64 (q : Int))) (some (.int .i64 (z : Int))) none).run Try.prog W = .ok (.slice (cutV a c q) (z - q) (c - q)) W) ∧ RdC w (cutV a c q) (z - q) (c - q) ((cut l q z).map (Value.int .u8)) := by
  have hsp : ∀ x, a = some x → x.spot = none := fun x hx => by
    subst hx
    obtain ⟨b, o, h1, _⟩ := h.row.at'
    have := (h1 (by rw [List.length_map]; exact h0)).1
    cases this; rfl
  have hr := h.window q z hqz hz hsp
  refine ⟨fun W => run_cut Try.underlying23 size_u8 hqz hz h.row.le (fun e => (h.row.nil e).2) hsp W, ?_⟩
  have := hr.1.row
  rw [hr.2] at this
  exact this
theorem BdW.const (h : BdW w0 wr A m ys B xs) {B' : Value} (own : wz.ownsRow w0.heap.size 5 1 B' (xs.length + (⟨#[32, 40, 42, 32, 99, 32, 40, 42, 32, 100, 32, 42, 41, 32, 42, 41, 32]⟩ : ByteArray).size) (xs.map (Value.int .u8) ++ Lib.strCells ⟨#[32, 40, 42, 32, 99, 32, 40, 42, 32, 100, 32, 42, 41, 32, 42, 41, 32]⟩)) (hg : wr.grownBy wz B.ownBlock) :
    BdW w0 wz A m ys B' (xs ++ comB) ∧ Ke (ByA w0 A) wr wz := by
  rw [comB_cells, ← List.map_append] at own
  exact ⟨h.grow (by rw [List.length_append]; exact own) hg, h.ke hg⟩
theorem BdW.piece (h : BdW w0 wr A m ys B xs) {B' : Value} {l : List Int} {q z n : Nat} (hn : (cut l q z).length = n) (own : wz.ownsRow w0.heap.size 5 1 B' (xs.length + n) (xs.map (Value.int .u8) ++ (cut l q z).map (Value.int .u8))) (hg : wr.grownBy wz B.ownBlock) :
    BdW w0 wz A m ys B' (xs ++ cut l q z) ∧ Ke (ByA w0 A) wr wz := by
  subst hn
  rw [← List.map_append] at own
  exact ⟨h.grow (by rw [List.length_append]; exact own) hg, h.ke hg⟩

set_option maxRecDepth 100000 in
set_option maxHeartbeats 16000000 in
theorem ends_law (a0 : Option Addr) (c0 : Nat) (l : List Int) (w : World) (hr : RdI .u8 w a0 c0 l) :
    Calls Try.prog 5 #[.slice a0 l.length c0] w fun e w' => e = .returned (.bool true) ∧ Below w.heap.size w w' := by
  have hlen := hr.len
  have HRD := Lib.hid hr
  have i0 : (l.length : Int) ≤ 9223372036854775807 := by omega
  clear hr
  by_cases h5 : 2000 < l.length
  · have h5' : (2000 : Int) < l.length := by omega
    clear hlen
    go_enter Try.func5, Try.ntmps5
    go_wp2_with (refine (known_walk _).mono ?_; rintro e w13 ⟨rfl, hb⟩; have B13 := Lib.hid hb; clear hb)
    go_ret
    exact ⟨rfl, B13.out⟩
  · have h5' : ¬ (2000 : Int) < l.length := by omega
    have HL := Lib.hid (show l.length ≤ 2000 by omega)
    obtain ⟨m, hm, hne, hend⟩ := ends_count l
    have HM := Lib.hid hm
    have HNE := Lib.hid hne
    have HNE0 := Lib.hid hne
    have HEND := Lib.hid hend
    have m0 : (0 : Int) ≤ m := by omega
    have m1 : (m : Int) ≤ 2000 := by omega
    clear hlen h5 hm hne hend
    have f1 : True := trivial
    go_enter Try.func5, Try.ntmps5
    go_wp2_with (have _f := f1; refine (new_walk HRD.out (by have := HL.out; omega)).mono ?_; rintro e w1 ⟨g, rfl, hs, hb⟩; have HE1 := Lib.hid (en_start hs hb); clear hs hb _f f1)
    go_loopg [4, 5, 6] m (fun gk av lv iv wr => ∃ (j : Nat) (F : Nat → Prop) (ap : Option Addr) (ac : Nat), av = .slice ap j ac ∧ lv = .int .i64 (lastP l j) ∧ iv = .int .i64 j ∧ j ≤ m ∧ m - j ≤ gk ∧ EnW w F wr g (gets (newS l) j) (.slice ap j ac) j (symsTo l j))
    case atStart => exact ⟨0, _, none, 0, rfl, rfl, rfl, Nat.zero_le _, Nat.le_refl _, HE1.out⟩
    case round =>
      obtain ⟨j, F, ap, ac, rfl, hlv, rfl, hj, hgk, hen⟩ := hrel
      have HEN := Lib.hid hen
      have HG := Lib.hid hgk
      have j0 : (0 : Int) ≤ j := by omega
      obtain ⟨la, hla⟩ : ∃ la, lastP l j = la := ⟨_, rfl⟩
      rw [hla] at hlv
      subst hlv
      have HLA := Lib.hid hla
      have hjl : (j : Int) ≤ l.length := by have := HM.out; omega
      by_cases hjm : j < m
      · have HJM := Lib.hid hjm
        obtain ⟨⟨v, p, u, i, t⟩, hx⟩ : ∃ x, (gets (newS l) j).sym = x := ⟨_, rfl⟩
        obtain ⟨tb, htb⟩ : ∃ tb : ByteArray, (⟨t.toArray⟩ : ByteArray) = tb := ⟨_, rfl⟩
        have HX := Lib.hid hx
        have HTB := Lib.hid htb
        have hv0 : (v != 0) = true := by have := HNE.out j hjm; rw [hx] at this; simpa using this
        obtain ⟨q, hq⟩ : ∃ q, posN l j = q := ⟨_, rfl⟩
        have hpq : p = (q : Int) := by have := posN_is HNE.out hjm; rw [hx, hq] at this; exact this
        subst hpq
        have hq1 : ¬ (q : Int) ≤ la := by have := lastP_lt HNE.out hjm; rw [hla, hq] at this; omega
        have hq2 : ¬ (l.length : Int) ≤ q := by have := posN_lt HNE.out hjm; rw [hq] at this; omega
        have HQ := Lib.hid hq
        have HSY : Hid (∀ F w g, Scn F w g (gets (newS l) j) → Calls Try.prog 13 #[.pointer (some ⟨g, 0, none⟩)] w fun e w' => e = .returned (.agg #[.int .i64 v, .int .i64 q, .int .i32 u, .int .i64 i, .string tb]) ∧ Below w.heap.size w w') := Lib.hid (fun F w g hs => by have := symbol_is hs _ HX.out; simp only at this; rw [HTB.out] at this; exact this)
        have HSN := Lib.hid (fun w' : World => Sep.nil w')
        have hf0 := field0 v q u i tb
        have HONE : Hid (∀ u' ∈ ([.int .i64 v, .int .i64 q, .int .i32 u, .int .i64 i, .string tb] : List Value), u'.oneCell' = true) := Lib.hid (by intro u hu; simp at hu; rcases hu with rfl | rfl | rfl | rfl | rfl <;> rfl)
        have HBY : Hid ((j + 1) * 48 ≤ 140737488355328) := Lib.hid (by have := HM.out; have := HL.out; omega)
        have HB63 : Hid (j + 1 ≤ 140737488355328) := Lib.hid (by have := HM.out; have := HL.out; omega)
        clear hx htb hq hjm hj hgk hen hla
        have f1 : True := trivial
        have f2 : True := trivial
        have f3 : True := trivial
        have f4 : True := trivial
        have f5 : True := trivial
        have f6 : True := trivial
        have f7 : True := trivial
        go_wp2_with (first | (have _f := f1; refine (HSY.out _ _ _ HEN.out.scn).mono ?_; rintro e wa ⟨rfl, hb⟩; have HEa := Lib.hid (HEN.out.on hb); clear hb _f f1) | (have _f := f2; refine (HSY.out _ _ _ HEa.out.scn).mono ?_; rintro e wb ⟨rfl, hb⟩; have HEb := Lib.hid (HEa.out.on hb); clear hb _f f2) | (have _f := f3; refine alloc_sep rfl 30 rfl (HSN.out _) (z := .agg #[.int .i64 0, .int .i64 0, .int .i32 0, .int .i64 0, .string ⟨#[]⟩]) (cs := #[.int .i64 0, .int .i64 0, .int .i32 0, .int .i64 0, .string ⟨#[]⟩]) (by kernel_rfl) rfl ?_; intro wc S' b' s'; have HSc := Lib.hid S'; have HBc := Lib.hid b'; clear S' b' s' _f f3) | (have _f := f4; refine store_sep (cells := #[.int .i64 v, .int .i64 q, .int .i32 u, .int .i64 i, .string tb]) rfl 30 (.tmp 7) (.tmp 35) rfl HSc.out 0 rfl rfl rfl (by kernel_rfl) rfl rfl ?_; intro we S' k' s'; have HSe := Lib.hid S'; have HEe := Lib.hid (HEb.out.more (((Ke.below (· = wb.heap.size) HBc.out).trans k').toBelow (fun i hi e => absurd e (Nat.ne_of_lt hi)))); have x1 : we.cell? ⟨wb.heap.size, 1, none⟩ = some (.int .i64 q) := ((S'.at 0 rfl).cell 1).trans rfl; clear S' k' s' _f f4) | (have _f := f5; refine load_sep (cs := #[.int .i64 v, .int .i64 q, .int .i32 u, .int .i64 i, .string tb]) rfl 30 (.tmp 7) rfl HSe.out 0 rfl rfl Try.underlying30 rfl (by kernel_rfl) ?_; have HEf := Lib.hid (HEe.out.more (bel1 we (.cells #[.int .i64 v, .int .i64 q, .int .i32 u, .int .i64 i, .string tb] 30))); have HRX := Lib.hid (rd_five we #[.int .i64 v, .int .i64 q, .int .i32 u, .int .i64 i, .string tb] 30); have HBAS := Lib.hid HEf.out.bel.size; clear x1 _f f5) | (have _f := f6; at_builtin; refine append_at rfl (.tmp 49) (.tmp 51) et_sym rfl w.heap.size rfl HEf.out.a rfl HRX.out rfl HONE.out HBY.out HB63.out HBAS.out ?_; intro v4 wt own4 gr4 at4; have HEt := Lib.hid (HEf.out.grow own4 gr4 at4); obtain ⟨pa, pc, rfl, rd4⟩ := RdC.own own4; clear own4 gr4 at4 rd4 _f f6) | (have _f := f7; refine (get_is HEt.out.scn HEt.out.lt).mono ?_; rintro e wg ⟨rfl, h6, k6⟩; have HEg := Lib.hid (HEt.out.got h6 k6); clear h6 k6 _f f7))
        go_roundg (gk - 1)
        case measure => have := HG.out; have := HJM.out; omega
        case rel => exact ⟨j + 1, _, _, _, rfl, by rw [lastP_succ, HQ.out], by go_num, HJM.out, by have := HG.out; omega, by rw [symsTo_succ, HX.out, symC_lit HTB.out]; exact HEg.out⟩
      · obtain rfl : j = m := by omega
        clear hj hgk hen hjm hla HLA HNE
        obtain ⟨⟨v, p, u, i, t⟩, hx⟩ : ∃ x, (gets (newS l) j).sym = x := ⟨_, rfl⟩
        have hv0 : v = 0 := by have := HEND.out; rw [hx] at this; exact this
        subst hv0
        have HX := Lib.hid hx
        have hf0 := field0 0 p u i ⟨t.toArray⟩
        obtain ⟨E, hE⟩ : ∃ E, (gets (newS l) j).err = E := ⟨_, rfl⟩
        obtain ⟨P, hP⟩ : ∃ P, (gets (newS l) j).pos = P := ⟨_, rfl⟩
        have HEE := Lib.hid hE
        have HPP := Lib.hid hP
        clear hx hE hP
        have f1 : True := trivial
        have f2 : True := trivial
        have f3 : True := trivial
        have f4 : True := trivial
        have hsplit : E = 0 ∨ (E != 0) = true := by by_cases h : E = 0; exact .inl h; exact .inr (by simpa using h)
        rcases hsplit with rfl | hE0
        · have HSYM : Hid (Syms l j) := Lib.hid ⟨HNE0.out, HEND.out, HEE.out⟩
          have HPO := Lib.hid (fun i (hi : i < j) => posN_is HNE0.out hi)
          go_wp2_with (first | (have _f := f1; refine (symbol_is HEN.out.scn _ HX.out).mono ?_; rintro e wa ⟨rfl, hb⟩; have HEa := Lib.hid (HEN.out.on hb); clear hb _f f1) | (have _f := f2; refine (symbol_is HEa.out.scn _ HX.out).mono ?_; rintro e wb ⟨rfl, hb⟩; have HEb := Lib.hid (HEa.out.on hb); clear hb _f f2) | (have _f := f3; refine (err_is HEb.out.scn _ _ HEE.out HPP.out).mono ?_; rintro e wc ⟨rfl, hb⟩; have HEc := Lib.hid (HEb.out.on hb); clear hb _f f3))
          have HBD0 : Hid (BdW w wc (.slice ap j ac) j (symsTo l j) (.slice none 0 0) (bld l (posN l) j 0)) := Lib.hid ⟨HEc.out.a, ⟨rfl, .inl ⟨rfl, rfl⟩⟩, HEc.out.bel⟩
          clear HEN HEa HEb HEc
          go_loopg [10, 11] j (fun gk bv iv wr => ∃ (i : Nat) (bp : Option Addr) (bc n : Nat), n = (bld l (posN l) j i).length ∧ bv = .slice bp n bc ∧ iv = .int .i64 i ∧ i ≤ j ∧ j - i ≤ gk ∧ BdW w wr (.slice ap j ac) j (symsTo l j) (.slice bp n bc) (bld l (posN l) j i))
          case atStart => exact ⟨0, none, 0, 0, rfl, rfl, rfl, Nat.zero_le _, Nat.le_refl _, HBD0.out⟩
          case round =>
            obtain ⟨i2, bp, bc, n, hn, rfl, rfl, hi, hgk, hbd⟩ := hrel
            have HBD := Lib.hid hbd
            have HG2 := Lib.hid hgk
            have HN := Lib.hid hn
            have i20 : (0 : Int) ≤ i2 := by omega
            by_cases hij : i2 < j
            · have HIJ := Lib.hid hij
              have hij' : (i2 : Int) < j := by omega
              obtain ⟨ab, rfl, hab0, hab1, habc⟩ := syms_cells hbd.a (by omega)
              have HAB0 := Lib.hid hab0
              have HAB1 := Lib.hid hab1
              obtain ⟨q, hq⟩ : ∃ q, posN l i2 = q := ⟨_, rfl⟩
              obtain ⟨z, hz⟩ : ∃ z, endP l j i2 = z := ⟨_, rfl⟩
              have hqz := endP_ge HNE0.out hij
              rw [hq, hz] at hqz
              have HQZ := Lib.hid hqz
              have HQ := Lib.hid hq
              have HZ := Lib.hid hz
              have ci : wr.cell? ⟨ab, i2 * 5 + 1, none⟩ = some (.int .i64 q) := habc i2 hij 1 _ (by decide) (by have := HPO.out i2 hij; rw [hq] at this; show some (Value.int .i64 _) = _; rw [this])
              have HCI := Lib.hid ci
              have HABC := Lib.hid habc
              have q0 : (0 : Int) ≤ q := by omega
              have z0 : (0 : Int) ≤ z := by omega
              have HCL : Hid ((cut l q z).length = z - q) := Lib.hid (cut_length hqz.2)
              have hbl := bld_len HNE0.out i2 (Nat.le_of_lt hij)
              rw [if_pos hij, hq] at hbl
              have HSZ1 : Hid ((bld l (posN l) j i2).length + (⟨#[32, 40, 42, 32, 99, 32, 40, 42, 32, 100, 32, 42, 41, 32, 42, 41, 32]⟩ : ByteArray).size ≤ 140737488355328) := Lib.hid (by
                have h1 := HM.out
                have h2 := HL.out
                have h3 : (⟨#[32, 40, 42, 32, 99, 32, 40, 42, 32, 100, 32, 42, 41, 32, 42, 41, 32]⟩ : ByteArray).size = 17 := rfl
                omega)
              have HSZ2 : Hid ((bld l (posN l) j i2 ++ comB).length + (z - q) ≤ 140737488355328) := Lib.hid (by
                have h1 := HM.out
                have h2 := HL.out
                have h3 : comB.length = 17 := rfl
                rw [List.length_append]
                omega)
              have HBX : Hid (bld l (posN l) j i2 ++ comB ++ cut l q z = bld l (posN l) j (i2 + 1)) := Lib.hid (by rw [← hq, ← hz]; rfl)
              have HNX : Hid ((bld l (posN l) j i2 ++ comB).length + (z - q) = (bld l (posN l) j (i2 + 1)).length) := Lib.hid (by have h1 := len_app (bld l (posN l) j i2 ++ comB) (cut l q z); have h2 := HCL.out; rw [← HBX.out]; omega)
              have HL0 : Hid (0 < l.length) := Lib.hid (by have := HM.out; omega)
              have HBE : Hid (∀ {wz : World} {B' : Value}, BdW w wz (.slice (some ⟨ab, 0, none⟩) j ac) j (symsTo l j) B' (bld l (posN l) j i2 ++ comB ++ cut l q z) → BdW w wz (.slice (some ⟨ab, 0, none⟩) j ac) j (symsTo l j) B' (bld l (posN l) j (i2 + 1))) := Lib.hid (fun h => by rw [HBX.out] at h; exact h)
              clear hbl
              clear hn hi hgk hbd hij hq hz hqz habc hab0 hab1 ci
              by_cases hlast : i2 + 1 < j
              · have hl' : ((i2 : Int) + 1) < j := by omega
                have cj : wr.cell? ⟨ab, (i2 + 1) * 5 + 1, none⟩ = some (.int .i64 z) := HABC.out (i2 + 1) hlast 1 _ (by decide) (by have := HPO.out (i2 + 1) hlast; have hz := HZ.out; unfold endP at hz; rw [if_pos hlast] at hz; rw [hz] at this; show some (Value.int .i64 _) = _; rw [this])
                clear hlast
                go_wp2
                refine wp_region_mixK (ByA w (.slice (some ⟨ab, 0, none⟩) j ac)) [([0, 2, 3, 4, 5, 6, 7, 8, 9], 1), ([], 10)] [11] (by kernel_rfl) (by kernel_rfl) (fun _ _ d _ _ h => by cases d <;> exact h) ?_
                intro wd hbd
                have HBd := Lib.hid (HBD.out.on hbd)
                have lc : ∀ x : Later (Ke (ByA w (.slice (some ⟨ab, 0, none⟩) j ac)) wd), x.w.cell? ⟨ab, i2 * 5 + 1, none⟩ = some (.int .i64 q) := fun x => ke_cell x.ok (Nat.lt_of_lt_of_le HAB1.out hbd.size) (fun e => e.2 rfl) ((hbd.cell HAB1.out).trans HCI.out)
                have hsl := (cut_rdc HRD.out HL0.out q z HQZ.out.1 HQZ.out.2).1
                clear hbd
                refine mixK_step ?_
                simp only [pickOps, nth]
                (repeat (go_big_quiet_step (fail)))
                refine wpQuiet_nil ?_
                clear lc hsl
                obtain ⟨ti, hti, hti0, hti1, hti2⟩ := info_parts info_u8
                refine Lib.wpList_append_own_string _ rfl (.tmp 86) (.const (.string ⟨#[32, 40, 42, 32, 99, 32, 40, 42, 32, 100, 32, 42, 41, 32, 42, 41, 32]⟩)) 23 9 rfl w.heap.size 5 ti Try.underlying23 Try.underlying9 hti hti0 hti1 hti2 (.slice bp n bc) (bld l (posN l) j i2).length _ rfl HBd.out.b _ rfl (Nat.le_trans HSZ1.out (by decide)) HSZ1.out HBd.out.bel.size ?_
                intro v1 w1 own1 gr1 _
                have HC1 := Lib.hid (HBd.out.const own1 gr1)
                clear own1 gr1 hti hti0 hti1 hti2
                refine ⟨HC1.out.2, mixK_step ?_⟩
                simp only [pickOps, nth, Act.put, List.setIfInBounds_toArray, List.set_cons_succ, List.set_cons_zero]
                refine wpQuiet_nil ?_
                have HRX := Lib.hid ((cut_rdc (HRD.out.below HC1.out.1.bel (Nat.le_refl _)) HL0.out q z HQZ.out.1 HQZ.out.2).2)
                refine append_at rfl (.tmp 87) (.tmp 95) et_u8e rfl w.heap.size rfl HC1.out.1.b rfl HRX.out (by rw [List.length_map, HCL.out, Nat.mul_one]) (ints_one .u8 _) (by rw [Nat.mul_one]; exact HSZ2.out) HSZ2.out HC1.out.1.bel.size ?_
                intro v2 w2 own2 gr2 _
                have HC2 := Lib.hid (HC1.out.1.piece HCL.out own2 gr2)
                obtain ⟨b2, c2, rfl, _⟩ := RdC.own own2
                clear own2 gr2
                refine ⟨HC2.out.2, mixK_end ?_⟩
                simp only [pickOps, nth, Act.put, List.setIfInBounds_toArray, List.set_cons_succ, List.set_cons_zero]
                (repeat (go_big_quiet_step (fail)))
                refine wpQuiet_nil ?_
                go_wp2
                go_roundg (gk - 1)
                case measure => have := HG2.out; have := HIJ.out; omega
                case rel => exact ⟨i2 + 1, _, _, _, HNX.out, rfl, by go_num, HIJ.out, by have := HG2.out; omega, HBE.out HC2.out.1⟩
              · have hl' : ¬ ((i2 : Int) + 1) < j := by omega
                obtain rfl : z = l.length := by have hz := HZ.out; unfold endP at hz; rw [if_neg hlast] at hz; exact hz.symm
                clear hlast
                go_wp2
                refine wp_region_mixK (ByA w (.slice (some ⟨ab, 0, none⟩) j ac)) [([0, 2, 3, 4, 5, 6, 7, 8, 9], 1), ([], 10)] [11] (by kernel_rfl) (by kernel_rfl) (fun _ _ d _ _ h => by cases d <;> exact h) ?_
                intro wd hbd
                have HBd := Lib.hid (HBD.out.on hbd)
                have lc : ∀ x : Later (Ke (ByA w (.slice (some ⟨ab, 0, none⟩) j ac)) wd), x.w.cell? ⟨ab, i2 * 5 + 1, none⟩ = some (.int .i64 q) := fun x => ke_cell x.ok (Nat.lt_of_lt_of_le HAB1.out hbd.size) (fun e => e.2 rfl) ((hbd.cell HAB1.out).trans HCI.out)
                have hsl := (cut_rdc HRD.out HL0.out q l.length HQZ.out.1 HQZ.out.2).1
                clear hbd
                refine mixK_step ?_
                simp only [pickOps, nth]
                (repeat (go_big_quiet_step (fail)))
                refine wpQuiet_nil ?_
                clear lc hsl
                obtain ⟨ti, hti, hti0, hti1, hti2⟩ := info_parts info_u8
                refine Lib.wpList_append_own_string _ rfl (.tmp 86) (.const (.string ⟨#[32, 40, 42, 32, 99, 32, 40, 42, 32, 100, 32, 42, 41, 32, 42, 41, 32]⟩)) 23 9 rfl w.heap.size 5 ti Try.underlying23 Try.underlying9 hti hti0 hti1 hti2 (.slice bp n bc) (bld l (posN l) j i2).length _ rfl HBd.out.b _ rfl (Nat.le_trans HSZ1.out (by decide)) HSZ1.out HBd.out.bel.size ?_
                intro v1 w1 own1 gr1 _
                have HC1 := Lib.hid (HBd.out.const own1 gr1)
                clear own1 gr1 hti hti0 hti1 hti2
                refine ⟨HC1.out.2, mixK_step ?_⟩
                simp only [pickOps, nth, Act.put, List.setIfInBounds_toArray, List.set_cons_succ, List.set_cons_zero]
                refine wpQuiet_nil ?_
                have HRX := Lib.hid ((cut_rdc (HRD.out.below HC1.out.1.bel (Nat.le_refl _)) HL0.out q l.length HQZ.out.1 HQZ.out.2).2)
                refine append_at rfl (.tmp 87) (.tmp 95) et_u8e rfl w.heap.size rfl HC1.out.1.b rfl HRX.out (by rw [List.length_map, HCL.out, Nat.mul_one]) (ints_one .u8 _) (by rw [Nat.mul_one]; exact HSZ2.out) HSZ2.out HC1.out.1.bel.size ?_
                intro v2 w2 own2 gr2 _
                have HC2 := Lib.hid (HC1.out.1.piece HCL.out own2 gr2)
                obtain ⟨b2, c2, rfl, _⟩ := RdC.own own2
                clear own2 gr2
                refine ⟨HC2.out.2, mixK_end ?_⟩
                simp only [pickOps, nth, Act.put, List.setIfInBounds_toArray, List.set_cons_succ, List.set_cons_zero]
                (repeat (go_big_quiet_step (fail)))
                refine wpQuiet_nil ?_
                go_wp2
                go_roundg (gk - 1)
                case measure => have := HG2.out; have := HIJ.out; omega
                case rel => exact ⟨i2 + 1, _, _, _, HNX.out, rfl, by go_num, HIJ.out, by have := HG2.out; omega, HBE.out HC2.out.1⟩
            · obtain rfl : j = i2 := by omega
              clear hi hgk hij hn hbd
              obtain ⟨T, hT⟩ : ∃ T, bld l (posN l) j j = T := ⟨_, rfl⟩
              have HEP := Lib.hid (ends_plain HSYM.out HPO.out hT.symm)
              have hTL := bld_len HNE0.out j (Nat.le_refl _)
              have hTB := bld_bd (S := l) HRD.out.bd (posN l) j j
              rw [hT] at HBD HN hTL hTB
              rw [if_neg (Nat.lt_irrefl j)] at hTL
              have HTL : Hid (T.length ≤ 65535) := Lib.hid (by have := HM.out; have := HL.out; omega)
              obtain rfl := HN.out
              have HRT : Hid (RdI .u8 wr bp bc T) := Lib.hid (by obtain ⟨a', c', e, hh⟩ := RdI.own HBD.out.b hTB; simp only [Value.slice.injEq] at e; obtain ⟨rfl, _, rfl⟩ := e; exact hh)
              clear hTL hTB hT HN
              have f1 : True := trivial
              go_wp2_with (have _f := f1; refine (new_walk HRT.out HTL.out).mono ?_; rintro e w1 ⟨g2, rfl, hs, hb⟩; have HE3 : Hid (EnW w (· < wr.heap.size) w1 g2 (gets (newS T) 0) (.slice ap j ac) j (symsTo l j)) := Lib.hid ⟨hs, ownsRow_ke HBD.out.a (Ke.below Non hb) (fun _ _ h => h), fun b hb' => (HBD.out.a.lt b hb').2, fun k hk => Nat.lt_of_lt_of_le hk HBD.out.bel.size, fun i hi => Nat.lt_of_lt_of_le hi hb.size, bel_then HBD.out.bel hb⟩; clear hs hb _f f1)
              go_loopg [14] j (fun gk iv wr' => ∃ (i : Nat) (F' : Nat → Prop), iv = .int .i64 i ∧ i ≤ j ∧ j - i ≤ gk ∧ EnW w F' wr' g2 (gets (newS T) i) (.slice ap j ac) j (symsTo l j))
              case atStart => exact ⟨0, _, rfl, Nat.zero_le _, Nat.le_refl _, HE3.out⟩
              case round =>
                obtain ⟨i3, F', rfl, hi, hgk, hen⟩ := hrel
                have HEN := Lib.hid hen
                have HG3 := Lib.hid hgk
                have i30 : (0 : Int) ≤ i3 := by omega
                by_cases hij : i3 < j
                · have HIJ := Lib.hid hij
                  have hij' : (i3 : Int) < j := by omega
                  obtain ⟨ab, rfl, hab0, hab1, habc⟩ := syms_cells hen.a (by omega)
                  have HAB1 := Lib.hid hab1
                  obtain ⟨⟨v, p1, u1, i1, t1⟩, hx⟩ : ∃ x, (gets (newS l) i3).sym = x := ⟨_, rfl⟩
                  obtain ⟨⟨v', p2, u', i', t'⟩, hy⟩ : ∃ x, (gets (newS T) i3).sym = x := ⟨_, rfl⟩
                  obtain ⟨h1, h2, h3, h4⟩ := HEP.out.1 i3 hij
                  rw [hx, hy] at h1 h2 h3 h4
                  simp only at h1 h2 h3 h4
                  subst h1; subst h2; subst h3; subst h4
                  obtain ⟨tb, htb⟩ : ∃ tb : ByteArray, (⟨t'.toArray⟩ : ByteArray) = tb := ⟨_, rfl⟩
                  have HY := Lib.hid hy
                  have HTB := Lib.hid htb
                  have hl := fun q v q5 hv => habc i3 hij q v q5 (by rw [hx, symC_lit htb]; exact hv)
                  have HLL := Lib.hid hl
                  have HSY : Hid (∀ F w g, Scn F w g (gets (newS T) i3) → Calls Try.prog 13 #[.pointer (some ⟨g, 0, none⟩)] w fun e w' => e = .returned (.agg #[.int .i64 v', .int .i64 p2, .int .i32 u', .int .i64 i', .string tb]) ∧ Below w.heap.size w w') := Lib.hid (fun F w g hs => by have := symbol_is hs _ HY.out; simp only at this; rw [HTB.out] at this; exact this)
                  have HSN := Lib.hid (fun w' : World => Sep.nil w')
                  clear hi hgk hen hij hab0 hab1 habc hx hy htb hl
                  have f1 : True := trivial
                  have f2 : True := trivial
                  have f3 : True := trivial
                  go_wp2_with (first | (have _f := f1; refine (HSY.out _ _ _ HEN.out.scn).mono ?_; rintro e wb ⟨rfl, hb⟩; have HEb := Lib.hid (HEN.out.on hb); have HBb := Lib.hid hb; clear hb _f f1) | (have _f := f2; refine alloc_sep rfl 30 rfl (HSN.out _) (z := .agg #[.int .i64 0, .int .i64 0, .int .i32 0, .int .i64 0, .string ⟨#[]⟩]) (cs := #[.int .i64 0, .int .i64 0, .int .i32 0, .int .i64 0, .string ⟨#[]⟩]) (by kernel_rfl) rfl ?_; intro wc S' b' s'; have HSc := Lib.hid S'; have HBc := Lib.hid b'; clear S' b' s' _f f2) | (have _f := f3; refine store_sep (cells := #[.int .i64 v', .int .i64 p2, .int .i32 u', .int .i64 i', .string tb]) rfl 30 (.tmp 15) (.tmp 106) rfl HSc.out 0 rfl rfl rfl (by kernel_rfl) rfl rfl ?_; intro we S' k' s'; have HSe := Lib.hid S'; have HBe : Hid (Below wb.heap.size wb we) := Lib.hid (((Ke.below (· = wb.heap.size) HBc.out).trans k').toBelow (fun i hi e => absurd e (Nat.ne_of_lt hi))); have HEe := Lib.hid (HEb.out.more HBe.out); clear S' k' s' _f f3))
                  refine wp_region_mix' [] [0, 1, 2, 3, 4, 5, 6, 7, 8, 9, 10, 11, 12, 13, 14, 15, 16, 17, 18, 19, 20, 21, 22, 23, 24, 25, 26, 27, 28, 29, 30, 31, 32, 33, 34, 35, 36, 37] (by kernel_rfl) (by kernel_rfl) (fun _ _ d _ _ h => by cases d <;> exact h) ?_
                  intro wd hbd
                  have HEd := Lib.hid (HEe.out.on hbd)
                  have hxd := (HSe.out.at 0 rfl).bel hbd
                  have hbd2 := bel_then HBb.out (bel_then HBe.out hbd)
                  have x0 := fun (x : Later (Below wd.heap.size wd)) => hxd.laterCellB 0 (v := .int .i64 v') rfl x
                  have x2 := fun (x : Later (Below wd.heap.size wd)) => hxd.laterCellB 2 (v := .int .i32 u') rfl x
                  have x3 := fun (x : Later (Below wd.heap.size wd)) => hxd.laterCellB 3 (v := .int .i64 i') rfl x
                  have x4 := fun (x : Later (Below wd.heap.size wd)) => hxd.laterCellB 4 (v := .string tb) rfl x
                  have hlt : ab < wd.heap.size := Nat.lt_of_lt_of_le HAB1.out hbd2.size
                  have a0' := fun (x : Later (Below wd.heap.size wd)) => later_cell (p := ⟨ab, i3 * 5, none⟩) hlt ((hbd2.cell HAB1.out).trans (HLL.out 0 (.int .i64 v') (by decide) rfl)) x
                  have a2 := fun (x : Later (Below wd.heap.size wd)) => later_cell (p := ⟨ab, i3 * 5 + 2, none⟩) hlt ((hbd2.cell HAB1.out).trans (HLL.out 2 (.int .i32 u') (by decide) rfl)) x
                  have a3 := fun (x : Later (Below wd.heap.size wd)) => later_cell (p := ⟨ab, i3 * 5 + 3, none⟩) hlt ((hbd2.cell HAB1.out).trans (HLL.out 3 (.int .i64 i') (by decide) rfl)) x
                  have a4 := fun (x : Later (Below wd.heap.size wd)) => later_cell (p := ⟨ab, i3 * 5 + 4, none⟩) hlt ((hbd2.cell HAB1.out).trans (HLL.out 4 (.string tb) (by decide) rfl)) x
                  clear hbd hxd hbd2 hlt
                  refine mix_end ?_
                  simp only [pickOps, nth, Act.put, List.setIfInBounds_toArray, List.set_cons_succ, List.set_cons_zero]
                  (repeat (go_big_quiet_step (fail)))
                  refine wpQuiet_nil ?_
                  clear x0 x2 x3 x4 a0' a2 a3 a4
                  have f4 : True := trivial
                  go_wp2_with (have _f := f4; refine (get_is HEd.out.scn HEd.out.lt).mono ?_; rintro e wg ⟨rfl, h6, k6⟩; have HEg := Lib.hid (HEd.out.got h6 k6); clear h6 k6 _f f4)
                  go_roundg (gk - 1)
                  case measure => have := HG3.out; have := HIJ.out; omega
                  case rel => exact ⟨i3 + 1, _, by go_num, HIJ.out, by have := HG3.out; omega, HEg.out⟩
                · obtain rfl : j = i3 := by omega
                  obtain ⟨⟨v', p2, u', i', t'⟩, hy⟩ : ∃ x, (gets (newS T) j).sym = x := ⟨_, rfl⟩
                  have hv0 : v' = 0 := by have := HEP.out.2; rw [hy] at this; exact this
                  subst hv0
                  have HY := Lib.hid hy
                  have hf1 := field0 0 p2 u' i' ⟨t'.toArray⟩
                  clear hi hgk hen hij hy
                  have f1 : True := trivial
                  have f2 : True := trivial
                  go_wp2_with (first | (have _f := f1; refine (symbol_is HEN.out.scn _ HY.out).mono ?_; rintro e wa ⟨rfl, hb⟩; have HEa := Lib.hid (HEN.out.on hb); clear hb _f f1) | (have _f := f2; refine (known_walk _).mono ?_; rintro e wk ⟨rfl, hb⟩; have HBk := Lib.hid (bel_then HEa.out.bel hb); clear hb _f f2))
                  go_ret
                  exact ⟨rfl, HBk.out⟩
        · go_wp2_with (first | (have _f := f1; refine (symbol_is HEN.out.scn _ HX.out).mono ?_; rintro e wa ⟨rfl, hb⟩; have HEa := Lib.hid (HEN.out.on hb); clear hb _f f1) | (have _f := f2; refine (symbol_is HEa.out.scn _ HX.out).mono ?_; rintro e wb ⟨rfl, hb⟩; have HEb := Lib.hid (HEa.out.on hb); clear hb _f f2) | (have _f := f3; refine (err_is HEb.out.scn _ _ HEE.out HPP.out).mono ?_; rintro e wc ⟨rfl, hb⟩; have HEc := Lib.hid (HEb.out.on hb); clear hb _f f3) | (have _f := f4; refine (known_walk _).mono ?_; rintro e wk ⟨rfl, hb⟩; have HBk := Lib.hid (bel_then HEc.out.bel hb); clear hb _f f4))
          go_ret
          exact ⟨rfl, HBk.out⟩

end Go.Proofs.Ytdgiijidgjagbaa
