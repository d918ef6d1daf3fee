/- Contracts: slices.Equal of imports, of fixups; bytes.Equal; object.Same. Printed by bin/gen_objeq2.py. -/
import Derived.Test.YteagpjcflcahoaaObjEq
import Derived.Deep.MidRow
namespace Go.Proofs.Yteagpjcflcahoaa
set_option linter.unusedVariables false
set_option linter.unusedSimpArgs false
open Go.RowKit

theorem str_beq {x y : ByteArray} : (x.toList == y.toList) = true ↔ x = y := by
  rw [beq_iff_eq, ByteArray.toList_eq, ByteArray.toList_eq]
  exact ⟨fun h => ByteArray.ext (Array.toList_inj.1 h), fun h => by rw [h]⟩
/-- a struct's load, wherever it lies, in a quiet walk. -/
theorem quiet_load {P : Program} {R : World → Prop} {K : Act → Prop} {a : Act} {o : Oper} (ty : TypeId) (x : Operand) (ho : o.op = .load ty x) {p : Addr} {v : Value} (hx : a.eval x = .pointer (some p))
    (hl : ∀ y : Later R, (Instr.loadAt ty (.pointer (some p))).run P y.w = .ok v y.w) (hk : K (a.put o.dst v)) : o.quiet P a (fun w' => ∃ y : Later R, w' = y.w) K :=
  ⟨_, fun w hw => by
    obtain ⟨y, rfl⟩ := hw
    unfold Oper.quietAt execOp
    simp only [ho, hx, Sem.run_bind, hl y, Result.andThen_ok]
    exact ⟨rfl, rfl⟩, hk⟩
theorem load_mid {w : World} {b o : Nat} {cs : List Value} {ty : TypeId} {d : TypeDesc} (hc : ∀ (j : Nat) (v : Value), cs[j]? = some v → w.cell? ⟨b, o + j, none⟩ = some v) (hu : Try.prog.underlying ty = some d) (hd : d.isRow = true) (hi : (Try.prog.info? ty).map (·.size) = some cs.length) :
    (Instr.loadAt ty (.pointer (some ⟨b, o, none⟩))).run Try.prog w = .ok (.agg cs.toArray) w := by
  simp only [Instr.loadAt, Instr.sureAddr, Sem.run_bind, Sem.run_pure, Result.andThen_ok, run_loadVar_mid (P := Try.prog) w b o ty cs d hc hu hd hi]

theorem imp_neq (x y : Imp) (w : World) : (binOp .neq 45 (.agg #[.string x.name, .int .u32 x.key]) (.agg #[.string y.name, .int .u32 y.key])).run Try.prog w = .ok (.bool (!(eqB x y))) w := by
  have hf : Try.prog.underlying 45 = some (.struct (Try.prog.fieldsOf 45)) := by kernel_rfl
  have p0 : ∀ (x : Imp) w, (part 9 #[.string x.name, .int .u32 x.key] 0).run Try.prog w = .ok (.string x.name) w := fun x w => by kernel_rfl
  have p1 : ∀ (x : Imp) w, (part 22 #[.string x.name, .int .u32 x.key] 1).run Try.prog w = .ok (.int .u32 x.key) w := fun x w => by kernel_rfl
  have e : eqB x y = (x.name.toList == y.name.toList && x.key == y.key) := by
    rw [Bool.eq_iff_iff, eqB_iff, Bool.and_eq_true, str_beq, beq_iff_eq]
    obtain ⟨xn, xk⟩ := x
    obtain ⟨yn, yk⟩ := y
    simp only [Imp.mk.injEq]
  rw [e, run_neq_struct, run_equalIn_struct w 9999 _ _ _ hf (by kernel_rfl)]
  simp [Program.fieldsOf, Try.underlying45, Op.eqFields, Sem.run_bind, p0, p1, run_equalIn_int _ 9998 _ _ _ _ _ Try.underlying22, run_equalIn_string _ 9998 _ _ _ Try.underlying9, Result.andThen_ok]
  by_cases h1 : (x.name.toList == y.name.toList) = true <;> by_cases h2 : x.key = y.key <;> simp_all
theorem fix_neq (x y : Fix) (w : World) : (binOp .neq 51 (.agg #[.int .i64 x.place, .int .i64 x.mod, .int .i64 x.entry]) (.agg #[.int .i64 y.place, .int .i64 y.mod, .int .i64 y.entry])).run Try.prog w = .ok (.bool (!(eqB x y))) w := by
  have hf : Try.prog.underlying 51 = some (.struct (Try.prog.fieldsOf 51)) := by kernel_rfl
  have p0 : ∀ (x : Fix) w, (part 3 #[.int .i64 x.place, .int .i64 x.mod, .int .i64 x.entry] 0).run Try.prog w = .ok (.int .i64 x.place) w := fun x w => by kernel_rfl
  have p1 : ∀ (x : Fix) w, (part 3 #[.int .i64 x.place, .int .i64 x.mod, .int .i64 x.entry] 1).run Try.prog w = .ok (.int .i64 x.mod) w := fun x w => by kernel_rfl
  have p2 : ∀ (x : Fix) w, (part 3 #[.int .i64 x.place, .int .i64 x.mod, .int .i64 x.entry] 2).run Try.prog w = .ok (.int .i64 x.entry) w := fun x w => by kernel_rfl
  have e : eqB x y = (x.place == y.place && x.mod == y.mod && x.entry == y.entry) := by
    rw [Bool.eq_iff_iff, eqB_iff, Bool.and_eq_true, Bool.and_eq_true, beq_iff_eq, beq_iff_eq, beq_iff_eq]
    obtain ⟨x1, x2, x3⟩ := x
    obtain ⟨y1, y2, y3⟩ := y
    simp only [Fix.mk.injEq, and_assoc]
  rw [e, run_neq_struct, run_equalIn_struct w 9999 _ _ _ hf (by kernel_rfl)]
  simp [Program.fieldsOf, Try.underlying51, Op.eqFields, Sem.run_bind, p0, p1, p2, run_equalIn_int _ 9998 _ _ _ _ _ Try.underlying3, Result.andThen_ok]
  by_cases h1 : x.place = y.place <;> by_cases h2 : x.mod = y.mod <;> by_cases h3 : x.entry = y.entry <;> simp_all

set_option maxHeartbeats 2000000 in
theorem eqimp_walk (l m : Sl Imp) (w : World) (hl : Rows impD w l) (hm : Rows impD w m) :
    Calls Try.prog 16 #[.slice l.a l.l.length l.c, .slice m.a m.l.length m.c] w fun e w' => e = .returned (.bool (eqB l.l m.l)) ∧ Below w.heap.size w w' := by
  have hll := hl.len
  have hml := hm.len
  obtain ⟨b1, o1, hat1, hcell1⟩ := hl.at'
  obtain ⟨b2, o2, hat2, hcell2⟩ := hm.at'
  have HA1 := Lib.hid hat1
  have HC1 := Lib.hid hcell1
  have HA2 := Lib.hid hat2
  have HC2 := Lib.hid hcell2
  clear hat1 hcell1 hat2 hcell2 hl hm
  obtain ⟨a1, c1, l⟩ := l
  obtain ⟨a2, c2, m⟩ := m
  dsimp only at hll hml HA1 HC1 HA2 HC2
  by_cases hn : l.length = m.length
  rotate_left
  · have HE : Hid (false = eqB l m) := Lib.hid (eqB_no (fun e => hn (by rw [e]))).symm
    have hn' : ((l.length : Int) != m.length) = true := by rw [bne_iff_ne]; omega
    have hn2 : (l.length != m.length) = true := by rw [bne_iff_ne]; exact hn
    clear hn
    go_enter Try.func16, Try.ntmps16
    go_wp2
    go_ret
    exact ⟨ret_bool HE.out, Below.refl _ _⟩
  have HN := Lib.hid hn
  have hn' : ((l.length : Int) != m.length) = false := by rw [bne_eq_false_iff_eq]; omega
  have hn2 : (l.length != m.length) = false := by rw [bne_eq_false_iff_eq]; exact hn
  clear hn
  go_enter Try.func16, Try.ntmps16
  go_wp2
  go_loopw [5, 13] (fun _ i wr => ∃ k : Nat, i = .int .i64 k ∧ k ≤ l.length ∧ (∀ j, j < k → l[j]? = m[j]?) ∧ Below w.heap.size w wr) (fun _ i _ => l.length - (intOf i).toNat)
  case atStart => exact ⟨0, rfl, Nat.zero_le _, fun j h => by omega, Below.refl _ _⟩
  case round =>
    obtain ⟨k, rfl, hk, hj, hb⟩ := hrel
    have HJ := Lib.hid hj
    have HB := Lib.hid hb
    clear hj hb
    by_cases hlt : k < l.length
    · obtain ⟨⟨xn, xk⟩, hx⟩ := get_lt hlt
      have hlm : k < m.length := by have := HN.out; omega
      obtain ⟨⟨yn, yk⟩, hy⟩ := get_lt hlm
      obtain ⟨rfl, hb1⟩ := HA1.out (by omega)
      obtain ⟨rfl, hb2⟩ := HA2.out (by omega)
      have HL1 : Hid (∀ w', Below w.heap.size w w' → (Instr.loadAt 45 (.pointer (some ⟨b1, o1 + k * 2, none⟩))).run Try.prog w' = .ok (.agg #[.string xn, .int .u32 xk]) w') := Lib.hid (fun w' kb => load_mid (cs := [.string xn, .int .u32 xk]) (fun q v hv => (kb.cell (p := ⟨b1, o1 + k * 2 + q, none⟩) hb1).trans (HC1.out k _ hx q v hv)) Try.underlying45 rfl (by kernel_rfl))
      have HL2 : Hid (∀ w', Below w.heap.size w w' → (Instr.loadAt 45 (.pointer (some ⟨b2, o2 + k * 2, none⟩))).run Try.prog w' = .ok (.agg #[.string yn, .int .u32 yk]) w') := Lib.hid (fun w' kb => load_mid (cs := [.string yn, .int .u32 yk]) (fun q v hv => (kb.cell (p := ⟨b2, o2 + k * 2 + q, none⟩) hb2).trans (HC2.out k _ hy q v hv)) Try.underlying45 rfl (by kernel_rfl))
      have HX := Lib.hid hx
      have HY := Lib.hid hy
      have HLT := Lib.hid hlt
      clear hx hy hb1 hb2
      obtain ⟨bq, hbq⟩ : ∃ bq, eqB (⟨xn, xk⟩ : Imp) ⟨yn, yk⟩ = bq := ⟨_, rfl⟩
      have hneq := fun w => imp_neq ⟨xn, xk⟩ ⟨yn, yk⟩ w
      rw [hbq] at hneq
      dsimp only at hneq
      have HBQ := Lib.hid hbq
      clear hbq
      go_wp2
      refine wp_region_mix' [] [0, 1, 2, 3, 4, 5, 6, 7, 8] (by kernel_rfl) (by kernel_rfl) (fun _ _ d _ _ h => by cases d <;> exact h) ?_
      intro wd hbd
      have HBD := Lib.hid (bel_then HB.out hbd)
      clear hbd
      refine mix_end ?_
      simp only [pickOps, nth]
      (repeat (go_big_quiet_step (fail)))
      go_big_quiet_want
      refine quiet_load 45 _ rfl rfl (fun x => HL1.out x.w (bel_then HBD.out x.ok)) ?_
      go_big_quiet_on
      simp only [Act.put, List.setIfInBounds_toArray, List.set_cons_succ, List.set_cons_zero]
      (repeat (go_big_quiet_step (fail)))
      go_big_quiet_want
      refine quiet_load 45 _ rfl rfl (fun x => HL2.out x.w (bel_then HBD.out x.ok)) ?_
      go_big_quiet_on
      simp only [Act.put, List.setIfInBounds_toArray, List.set_cons_succ, List.set_cons_zero]
      (repeat (go_big_quiet_step (fail)))
      refine wpQuiet_nil ?_
      clear hneq
      cases bq with
      | true =>
        have HXY := Lib.hid (eqB_iff.1 HBQ.out)
        go_wp2
        go_roundw
        case rel =>
          refine ⟨k + 1, by go_num, HLT.out, fun j hj => ?_, HBD.out⟩
          rcases Nat.lt_or_ge j k with h | h
          · exact HJ.out j h
          · obtain rfl : j = k := by omega
            rw [HX.out, HY.out, HXY.out]
        case measure => simp [intOf]; have := HLT.out; omega
      | false =>
        have HE : Hid (false = eqB l m) := Lib.hid (eqB_no (not_lists HX.out HY.out (fun e => by have := HBQ.out; rw [eqB_yes e] at this; cases this))).symm
        go_wp2
        go_ret
        exact ⟨ret_bool HE.out, HBD.out⟩
    · have HE : Hid (true = eqB l m) := Lib.hid (eqB_yes (eq_lists HN.out (fun j hj => HJ.out j (by omega)))).symm
      clear hk
      go_wp2
      go_ret
      exact ⟨ret_bool HE.out, HB.out⟩

set_option maxHeartbeats 2000000 in
theorem eqfix_walk (l m : Sl Fix) (w : World) (hl : Rows fixD w l) (hm : Rows fixD w m) :
    Calls Try.prog 20 #[.slice l.a l.l.length l.c, .slice m.a m.l.length m.c] w fun e w' => e = .returned (.bool (eqB l.l m.l)) ∧ Below w.heap.size w w' := by
  have hll := hl.len
  have hml := hm.len
  obtain ⟨b1, o1, hat1, hcell1⟩ := hl.at'
  obtain ⟨b2, o2, hat2, hcell2⟩ := hm.at'
  have HA1 := Lib.hid hat1
  have HC1 := Lib.hid hcell1
  have HA2 := Lib.hid hat2
  have HC2 := Lib.hid hcell2
  clear hat1 hcell1 hat2 hcell2 hl hm
  obtain ⟨a1, c1, l⟩ := l
  obtain ⟨a2, c2, m⟩ := m
  dsimp only at hll hml HA1 HC1 HA2 HC2
  by_cases hn : l.length = m.length
  rotate_left
  · have HE : Hid (false = eqB l m) := Lib.hid (eqB_no (fun e => hn (by rw [e]))).symm
    have hn' : ((l.length : Int) != m.length) = true := by rw [bne_iff_ne]; omega
    have hn2 : (l.length != m.length) = true := by rw [bne_iff_ne]; exact hn
    clear hn
    go_enter Try.func20, Try.ntmps20
    go_wp2
    go_ret
    exact ⟨ret_bool HE.out, Below.refl _ _⟩
  have HN := Lib.hid hn
  have hn' : ((l.length : Int) != m.length) = false := by rw [bne_eq_false_iff_eq]; omega
  have hn2 : (l.length != m.length) = false := by rw [bne_eq_false_iff_eq]; exact hn
  clear hn
  go_enter Try.func20, Try.ntmps20
  go_wp2
  go_loopw [5, 13] (fun _ i wr => ∃ k : Nat, i = .int .i64 k ∧ k ≤ l.length ∧ (∀ j, j < k → l[j]? = m[j]?) ∧ Below w.heap.size w wr) (fun _ i _ => l.length - (intOf i).toNat)
  case atStart => exact ⟨0, rfl, Nat.zero_le _, fun j h => by omega, Below.refl _ _⟩
  case round =>
    obtain ⟨k, rfl, hk, hj, hb⟩ := hrel
    have HJ := Lib.hid hj
    have HB := Lib.hid hb
    clear hj hb
    by_cases hlt : k < l.length
    · obtain ⟨⟨xp, xm, xe⟩, hx⟩ := get_lt hlt
      have hlm : k < m.length := by have := HN.out; omega
      obtain ⟨⟨yp, ym, ye⟩, hy⟩ := get_lt hlm
      obtain ⟨rfl, hb1⟩ := HA1.out (by omega)
      obtain ⟨rfl, hb2⟩ := HA2.out (by omega)
      have HL1 : Hid (∀ w', Below w.heap.size w w' → (Instr.loadAt 51 (.pointer (some ⟨b1, o1 + k * 3, none⟩))).run Try.prog w' = .ok (.agg #[.int .i64 xp, .int .i64 xm, .int .i64 xe]) w') := Lib.hid (fun w' kb => load_mid (cs := [.int .i64 xp, .int .i64 xm, .int .i64 xe]) (fun q v hv => (kb.cell (p := ⟨b1, o1 + k * 3 + q, none⟩) hb1).trans (HC1.out k _ hx q v hv)) Try.underlying51 rfl (by kernel_rfl))
      have HL2 : Hid (∀ w', Below w.heap.size w w' → (Instr.loadAt 51 (.pointer (some ⟨b2, o2 + k * 3, none⟩))).run Try.prog w' = .ok (.agg #[.int .i64 yp, .int .i64 ym, .int .i64 ye]) w') := Lib.hid (fun w' kb => load_mid (cs := [.int .i64 yp, .int .i64 ym, .int .i64 ye]) (fun q v hv => (kb.cell (p := ⟨b2, o2 + k * 3 + q, none⟩) hb2).trans (HC2.out k _ hy q v hv)) Try.underlying51 rfl (by kernel_rfl))
      have HX := Lib.hid hx
      have HY := Lib.hid hy
      have HLT := Lib.hid hlt
      clear hx hy hb1 hb2
      obtain ⟨bq, hbq⟩ : ∃ bq, eqB (⟨xp, xm, xe⟩ : Fix) ⟨yp, ym, ye⟩ = bq := ⟨_, rfl⟩
      have hneq := fun w => fix_neq ⟨xp, xm, xe⟩ ⟨yp, ym, ye⟩ w
      rw [hbq] at hneq
      dsimp only at hneq
      have HBQ := Lib.hid hbq
      clear hbq
      go_wp2
      refine wp_region_mix' [] [0, 1, 2, 3, 4, 5, 6, 7, 8] (by kernel_rfl) (by kernel_rfl) (fun _ _ d _ _ h => by cases d <;> exact h) ?_
      intro wd hbd
      have HBD := Lib.hid (bel_then HB.out hbd)
      clear hbd
      refine mix_end ?_
      simp only [pickOps, nth]
      (repeat (go_big_quiet_step (fail)))
      go_big_quiet_want
      refine quiet_load 51 _ rfl rfl (fun x => HL1.out x.w (bel_then HBD.out x.ok)) ?_
      go_big_quiet_on
      simp only [Act.put, List.setIfInBounds_toArray, List.set_cons_succ, List.set_cons_zero]
      (repeat (go_big_quiet_step (fail)))
      go_big_quiet_want
      refine quiet_load 51 _ rfl rfl (fun x => HL2.out x.w (bel_then HBD.out x.ok)) ?_
      go_big_quiet_on
      simp only [Act.put, List.setIfInBounds_toArray, List.set_cons_succ, List.set_cons_zero]
      (repeat (go_big_quiet_step (fail)))
      refine wpQuiet_nil ?_
      clear hneq
      cases bq with
      | true =>
        have HXY := Lib.hid (eqB_iff.1 HBQ.out)
        go_wp2
        go_roundw
        case rel =>
          refine ⟨k + 1, by go_num, HLT.out, fun j hj => ?_, HBD.out⟩
          rcases Nat.lt_or_ge j k with h | h
          · exact HJ.out j h
          · obtain rfl : j = k := by omega
            rw [HX.out, HY.out, HXY.out]
        case measure => simp [intOf]; have := HLT.out; omega
      | false =>
        have HE : Hid (false = eqB l m) := Lib.hid (eqB_no (not_lists HX.out HY.out (fun e => by have := HBQ.out; rw [eqB_yes e] at this; cases this))).symm
        go_wp2
        go_ret
        exact ⟨ret_bool HE.out, HBD.out⟩
    · have HE : Hid (true = eqB l m) := Lib.hid (eqB_yes (eq_lists HN.out (fun j hj => HJ.out j (by omega)))).symm
      clear hk
      go_wp2
      go_ret
      exact ⟨ret_bool HE.out, HB.out⟩

end Go.Proofs.Yteagpjcflcahoaa
