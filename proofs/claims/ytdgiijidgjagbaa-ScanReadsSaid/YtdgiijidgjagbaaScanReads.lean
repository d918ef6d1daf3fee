/- The statement ScanReads, walked. -/
import Derived.Test.YtdgiijidgjagbaaScanRes
import Derived.Test.YtdgiijidgjagbaaRefScan
namespace Go.Proofs.Ytdgiijidgjagbaa
set_option linter.unusedVariables false
set_option linter.unusedSimpArgs false
open Go.RowKit

variable {F : Nat → Prop} {w w' : World} {g : Nat} {s : Sc}

/-- a scanner beside what is written. -/
theorem Scn.aside {G : Nat → Prop} (H : Scn F w g s) (k : Ke G w w') (hG : ∀ i, G i → F i) : Scn F w' g s := by
  obtain ⟨a, c, n, m, h⟩ := H
  exact ⟨a, c, n, m, h.ke k (fun e => h.fg (hG _ e)) (fun e => h.fm (hG _ e)) (fun b hb e => h.fn b hb (hG _ e)) (fun b hb e => h.fa b hb (hG _ e))⟩
theorem ownsRow_nil5 {w : World} {B : Nat} {e : TypeId} {size : Nat} : w.ownsRow B e size (.slice none 0 0) 0 [] := ⟨by simp, .inl ⟨rfl, rfl⟩⟩
theorem name_is (H : Scn F w g s) (id : Int) (x : ByteArray) (hx : nameV (s.nameOf id) = .string x) :
    Calls Try.prog 19 #[.pointer (some ⟨g, 0, none⟩), .int .i64 id] w fun e w' => e = .returned (.string x) ∧ w = w' := by
  obtain ⟨a, c, n, m, h⟩ := H
  rw [← hx]
  exact nameof_walk h id
theorem et_u8' : ET Try.prog 23 5 (.int .u8 0) 1 1 := ET.of Try.underlying23 (by kernel_rfl) (by decide) (by decide)

/-- what lies beside the scanner in this law: the result's cell, its symbols and names. -/
structure RdW (w0 : World) (F : Nat → Prop) (wr : World) (g r : Nat) (s : Sc) (A N : Value) (E P : Int) (m : Nat) (ys : List Value) (nms : List (List UInt8)) : Prop where
  scn : Scn F wr g s
  res : At wr r #[A, N, .int .i64 E, .int .i64 P] 42
  a : wr.ownsRow 0 30 5 A m ys
  n : wr.ownsRow 0 9 1 N nms.length (nms.map nameV)
  fr : F r
  fa : ∀ b, A.ownBlock = some b → F b
  fn : ∀ b, N.ownBlock = some b → F b
  low : ∀ k, k < w0.heap.size → F k
  lt : ∀ k, F k → k < wr.heap.size
  bel : Below w0.heap.size w0 wr
variable {w0 wr wz : World} {r : Nat} {A N : Value} {E P : Int} {m : Nat} {ys : List Value} {nms : List (List UInt8)}
theorem RdW.on (h : RdW w0 F wr g r s A N E P m ys nms) (k : Below wr.heap.size wr wz) : RdW w0 F wz g r s A N E P m ys nms :=
  ⟨h.scn.bel k, h.res.bel k, ownsRow_ke h.a (Ke.below Non k) (fun _ _ h => h), ownsRow_ke h.n (Ke.below Non k) (fun _ _ h => h), h.fr, h.fa, h.fn, h.low, fun i hi => Nat.lt_of_lt_of_le (h.lt i hi) k.size, bel_then h.bel k⟩
theorem RdW.got (h : RdW w0 F wr g r s A N E P m ys nms) {s' : Sc} (hs : Scn F wz g s') (k : Ke (Off F) wr wz) : RdW w0 F wz g r s' A N E P m ys nms :=
  ⟨hs, h.res.ke k (fun e => e h.fr), ownsRow_ke h.a k (fun b hb e => e (h.fa b hb)), ownsRow_ke h.n k (fun b hb e => e (h.fn b hb)), h.fr, h.fa, h.fn, h.low, fun i hi => Nat.lt_of_lt_of_le (h.lt i hi) k.size, bel_off2 h.bel k h.low⟩

theorem RdW.start {w1 w2 w3 w5 : World} (hs : Scn (· < w1.heap.size) w2 g s) (bw : Below w0.heap.size w0 w1) (b2 : Below w1.heap.size w1 w2) (b3 : Below w2.heap.size w2 w3) (b5 : Below w3.heap.size w3 w5) (res : At w5 w3.heap.size #[A, N, .int .i64 E, .int .i64 P] 42)
    (ha : w3.ownsRow w2.heap.size 30 5 A m ys) (hn : w3.ownsRow w2.heap.size 9 1 N nms.length (nms.map nameV)) : RdW w0 (fun i => i < w1.heap.size ∨ (w2.heap.size ≤ i ∧ i < w5.heap.size)) w5 g w3.heap.size s A N E P m ys nms := by
  have s2 := b2.size
  have s3 := b3.size
  have s5 := b5.size
  have hlt := res.lt
  have zero : ∀ {e : TypeId} {size n : Nat} {v : Value} {xs : List Value}, w3.ownsRow w2.heap.size e size v n xs → w5.ownsRow 0 e size v n xs := fun h => by
    have h' := ownsRow_ke h (Ke.below Non b5) (fun _ _ h => h)
    exact ⟨h'.1, h'.2.imp id (fun ⟨b, cap, cur, q1, _, q3⟩ => ⟨b, cap, cur, q1, Nat.zero_le _, q3⟩)⟩
  refine ⟨hs.more (bel_then b3 b5), res, zero ha, zero hn, .inr ⟨s3, hlt⟩, fun b hb => .inr ⟨(ha.lt b hb).1, Nat.lt_of_lt_of_le (ha.lt b hb).2 s5⟩, fun b hb => .inr ⟨(hn.lt b hb).1, Nat.lt_of_lt_of_le (hn.lt b hb).2 s5⟩, fun k hk => .inl (Nat.lt_of_lt_of_le hk bw.size), fun k hk => ?_, bel_then (bel_then bw b2) (bel_then b3 b5)⟩
  rcases hk with hk | hk
  · have hk' : k < w1.heap.size := hk
    omega
  · exact hk.2
theorem RdW.put {w5 w6 : World} (h : RdW w0 F w5 g r s A N E P m ys nms) {ob : Nat} {cur : Array Value} (ha : At w5 ob cur 5) (k : Ke (· = ob) w5 w6) (hF : F ob) (h0 : w0.heap.size ≤ ob) (hr : r ≠ ob) : RdW w0 F w6 g r s A N E P m ys nms :=
  ⟨h.scn.aside k (fun i e => by subst e; exact hF), h.res.ke k hr, row_on h.a ha (by decide) k, row_on h.n ha (by decide) k, h.fr, h.fa, h.fn, h.low, fun i hi => Nat.lt_of_lt_of_le (h.lt i hi) k.size, set_bel h.bel h0 k⟩
theorem RdW.more (h : RdW w0 F wr g r s A N E P m ys nms) (k : Below wr.heap.size wr wz) : RdW w0 (fun i => F i ∨ (wr.heap.size ≤ i ∧ i < wz.heap.size)) wz g r s A N E P m ys nms :=
  ⟨h.scn.more k, h.res.bel k, ownsRow_ke h.a (Ke.below Non k) (fun _ _ h => h), ownsRow_ke h.n (Ke.below Non k) (fun _ _ h => h), .inl h.fr, fun b hb => .inl (h.fa b hb), fun b hb => .inl (h.fn b hb), fun i hi => .inl (h.low i hi),
   fun i hi => by rcases hi with hi | hi; exact Nat.lt_of_lt_of_le (h.lt i hi) k.size; exact hi.2, bel_then h.bel k⟩

set_option maxRecDepth 100000 in
set_option maxHeartbeats 16000000 in
theorem reads_law (a0 : Option Addr) (c0 : Nat) (l : List Int) (w : World) (hr : RdI .u8 w a0 c0 l) :
    Calls Try.prog 7 #[.slice a0 l.length c0] w fun e w' => e = .returned (.bool true) ∧ Below w.heap.size w w' := by
  have hlen := hr.len
  have HRD := Lib.hid hr
  have i0 : (l.length : Int) ≤ 9223372036854775807 := by omega
  clear hr
  by_cases h5 : 5000 < l.length
  · have h5' : (5000 : Int) < l.length := by omega
    clear hlen
    go_enter Try.func7, Try.ntmps7
    go_wp2_with (refine (known_walk _).mono ?_; rintro e w13 ⟨rfl, hb⟩; have B13 := Lib.hid hb; clear hb)
    go_ret
    exact ⟨rfl, B13.out⟩
  · have h5' : ¬ (5000 : Int) < l.length := by omega
    have h6 : (l.length : Int) ≤ 65535 := by omega
    have HL := Lib.hid (show l.length ≤ 65535 by omega)
    have HONE := Lib.hid (ints_one .u8 l)
    have HBY := Lib.hid (show (0 + l.length) * 1 ≤ 140737488355328 by omega)
    have HB63 := Lib.hid (show 0 + l.length ≤ 140737488355328 by omega)
    obtain ⟨xb, hxb⟩ : ∃ xb, strOf l = xb := ⟨_, rfl⟩
    have HXB := Lib.hid hxb
    clear hlen h5 hxb
    have f1 : True := trivial
    have f2 : True := trivial
    have f3 : True := trivial
    have f4 : True := trivial
    have f5 : True := trivial
    by_cases hz : 0 < l.length
    · have f6 : True := trivial
      have hz' : (0 : Int) < l.length := by omega
      obtain ⟨v0, hv0⟩ : ∃ v0, l.getD 0 0 = v0 := ⟨_, rfl⟩
      have HLP := Lib.hid (show 0 < (l.map (Value.int .u8)).length by rw [List.length_map]; exact hz)
      have HL0 : Hid ((l.map (Value.int .u8))[0]? = some (.int .u8 v0)) := Lib.hid (by rw [List.getElem?_map, List.getElem?_eq_getElem hz, ← hv0, List.getD_eq_getElem?_getD, List.getElem?_eq_getElem hz]; rfl)
      have hb0 := bd_u8 (HRD.out.bd _ (getD_mem hz))
      rw [hv0] at hb0
      have b01 := hb0.1
      have b02 := hb0.2
      clear hz hv0 hb0
      go_enter Try.func7, Try.ntmps7
      go_wp2_with (first | (have _f := f1; at_builtin; refine append_at rfl (.const (.slice none 0 0)) (.tmp 18) et_u8' rfl w.heap.size rfl ownsRow_nil5 rfl HRD.out.row (by simp) HONE.out HBY.out HB63.out (Nat.le_refl _) ?_; intro v1 w1 own1 gr1 at1; rw [Nat.zero_add, List.nil_append] at own1; have HB1 : Hid (Below w.heap.size w w1) := Lib.hid ((Ke.ofGrown gr1).toBelow (fun i _ e => by cases e)); have HO1 := Lib.hid own1; obtain ⟨oa, oc, rfl, rd1⟩ := RdC.own own1; have HRO : Hid (RdI .u8 w1 oa oc l) := Lib.hid (by obtain ⟨a', c', e, hh⟩ := RdI.own own1 HRD.out.bd; simp only [Value.slice.injEq] at e; obtain ⟨rfl, _, rfl⟩ := e; exact hh); clear own1 gr1 at1 rd1; obtain ⟨ob, cur, rfl, hob, hat, hcur⟩ := row_at HO1.out HLP.out; have HOB := Lib.hid hob; have HOA := Lib.hid hat; have hcz := hcur 0 _ HL0.out; have HCZ := Lib.hid hcz; have HSZ : Hid (decide (0 < cur.size) = true) := Lib.hid (by rcases Nat.lt_or_ge 0 cur.size with h | h; exact decide_eq_true h; rw [Array.getElem?_eq_none h] at hcz; cases hcz); clear hob hat hcur hcz; clear _f f1) | (have _f := f2; refine (new_walk HRO.out HL.out).mono ?_; rintro e w2 ⟨g, rfl, hs, hb⟩; have HS2 := Lib.hid hs; have HB2 := Lib.hid hb; clear hs hb _f f2) | (have _f := f3; refine (scan_ref (HRD.out.below (bel_then HB1.out HB2.out) (Nat.le_refl _)) HL.out).mono ?_; rintro e w3 ⟨A, N, m, E, P, nms, rfl, hb, ha, hn, hcs⟩; have HB3 := Lib.hid hb; have HA3 := Lib.hid ha; have HN3 := Lib.hid hn; have HCS := Lib.hid hcs; have HSE3 := Lib.hid (Sep.nil w3); clear hb ha hn hcs; obtain ⟨ap, ac, rfl, _⟩ := RdC.own HA3.out; obtain ⟨np, nc, rfl, _⟩ := RdC.own HN3.out; clear _f f3) | (have _f := f4; refine alloc_sep rfl 42 rfl HSE3.out (z := .agg #[.slice none 0 0, .slice none 0 0, .int .i64 0, .int .i64 0]) (cs := #[.slice none 0 0, .slice none 0 0, .int .i64 0, .int .i64 0]) (by kernel_rfl) rfl ?_; intro w4 S' b' s'; have HSE4 := Lib.hid S'; have HB4 := Lib.hid b'; clear S' b' s' _f f4) | (have _f := f5; refine store_sep (cells := #[.slice ap m ac, .slice np nms.length nc, .int .i64 E, .int .i64 P]) rfl 42 (.tmp 5) (.tmp 23) rfl HSE4.out 0 rfl rfl rfl (by kernel_rfl) rfl rfl ?_; intro w5 S' k' s'; have HSE5 := Lib.hid S'; have HB5 : Hid (Below w3.heap.size w3 w5) := Lib.hid (((Ke.below (· = w3.heap.size) HB4.out).trans k').toBelow (fun i hi e => absurd e (Nat.ne_of_lt hi))); have HSZ5 := Lib.hid (show w3.heap.size < w5.heap.size from (S'.at 0 rfl).lt); clear S' k' s'; have HW5 := Lib.hid (bel_then (bel_then (bel_then HB1.out HB2.out) HB3.out) HB5.out); have hcv1 : (convert 23 9 (.slice (some ⟨ob, 0, none⟩) l.length oc)).run Try.prog w5 = .ok (.string xb) w5 := strv HRO.out HXB.out (bel_then (bel_then HB2.out HB3.out) HB5.out); have hcv2 : (convert 23 9 (.slice a0 l.length c0)).run Try.prog w5 = .ok (.string xb) w5 := strv HRD.out HXB.out HW5.out; have HSP := Lib.hid (own_sep HSE5.out HOA.out (bel_then (bel_then HB2.out HB3.out) HB5.out) (Nat.le_trans HB2.out.size HB3.out.size)); have c8 : w5.cell? ⟨ob, 0, none⟩ = some (.int .u8 v0) := ((HSP.out.at 0 rfl).cell 0).trans HCZ.out; clear _f f5) | (have _f := f6; refine store1_sep rfl 5 (.tmp 36) (.tmp 35) rfl HSP.out 0 rfl rfl rfl HSZ.out (by kernel_rfl) rfl ?_; intro w6 S' k' s'; have HSE6 := Lib.hid S'; have HK6 := Lib.hid k'; clear S' k' s' c8 hcv1 hcv2 _f f6))
      have HFX := Lib.hid (res_facts HCS.out)
      obtain ⟨F, hF⟩ : ∃ F : Nat → Prop, F = (fun i => i < w1.heap.size ∨ (w2.heap.size ≤ i ∧ i < w5.heap.size)) := ⟨_, rfl⟩
      have HRW0 : Hid (RdW w F w6 g w3.heap.size (newS l) (.slice ap m ac) (.slice np nms.length nc) E P m (symsC ((List.range m).map fun j => (gets (newS l) j).sym)) nms) := Lib.hid (by rw [hF]; exact (RdW.start HS2.out HB1.out HB2.out HB3.out HB5.out (HSE5.out.at 0 rfl) HA3.out HN3.out).put (HSP.out.at 0 rfl) HK6.out (.inl HOA.out.lt) HOB.out (by have h1 := HOA.out.lt; have h2 := HB2.out.size; have h3 := HB3.out.size; omega))
      obtain ⟨r, hr⟩ : ∃ r, r = w3.heap.size := ⟨_, rfl⟩
      rw [← hr] at HRW0 ⊢
      have m0 : (0 : Int) ≤ m := by omega
      clear hF hr HSE5 HW5 HSE4 HB4 HB5 HSZ5 HSE3 HA3 HN3 HB3 HS2 HB2 HRO HO1 HB1 HSE6 HK6 HSP HOA HOB HCZ HSZ
      go_loopg [6] m (fun gk iv wr => ∃ j : Nat, iv = .int .i64 j ∧ j ≤ m ∧ m - j ≤ gk ∧ RdW w F wr g r (gets (newS l) j) (.slice ap m ac) (.slice np nms.length nc) E P m (symsC ((List.range m).map fun j => (gets (newS l) j).sym)) nms)
      case atStart => exact ⟨0, rfl, Nat.zero_le _, Nat.le_refl _, HRW0.out⟩
      case round =>
        obtain ⟨j, rfl, hj, hgk, hrw⟩ := hrel
        have HRW := Lib.hid hrw
        have HG := Lib.hid hgk
        have j0 : (0 : Int) ≤ j := by omega
        have HMZ := Lib.hid (own_le hrw.a)
        have m1 : (m : Int) ≤ 9223372036854775807 := by have := HMZ.out; omega
        have cr : wr.cell? ⟨r, 0, none⟩ = some (.slice ap m ac) := (hrw.res.cell 0).trans rfl
        by_cases hjm : j < m
        · have hjm' : (j : Int) < m := by omega
          have HJM := Lib.hid hjm
          obtain ⟨ab, rfl, _, hab, hac⟩ := row_cells hrw.a (by rw [symsC_len, List.length_map, List.length_range]; omega)
          have HAB := Lib.hid hab
          have HAC := Lib.hid hac
          obtain ⟨⟨v, p, u, i, t⟩, hx⟩ : ∃ x, (gets (newS l) j).sym = x := ⟨_, rfl⟩
          obtain ⟨tb, htb⟩ : ∃ tb : ByteArray, (⟨t.toArray⟩ : ByteArray) = tb := ⟨_, rfl⟩
          have HX := Lib.hid hx
          have HTB := Lib.hid htb
          have HLD : Hid (∀ w', Below wr.heap.size wr w' → (Instr.loadAt 30 (.pointer (some ⟨ab, j * 5, none⟩))).run Try.prog w' = .ok (.agg #[.int .i64 v, .int .i64 p, .int .i32 u, .int .i64 i, .string tb]) w') := Lib.hid (fun w' k => load_mid (cs := [.int .i64 v, .int .i64 p, .int .i32 u, .int .i64 i, .string tb]) (fun q y hy => by
            refine (k.cell (p := ⟨ab, j * 5 + q, none⟩) hab).trans (hac _ y ?_)
            have hq : q < 5 := by
              rcases Nat.lt_or_ge q 5 with h | h
              · exact h
              · rw [List.getElem?_eq_none (by simpa using h)] at hy; cases hy
            rw [symsC_at _ m j hjm q hq, hx]
            unfold symC nameV
            rw [htb]
            exact hy) Try.underlying30 rfl (by kernel_rfl))
          have HE := Lib.hid (HFX.out.1 j hjm)
          have hsm := sym_same v p u i tb
          clear hrw hgk hj hjm hab hac hx htb
          go_wp2
          refine wp_region_mix' [([0, 2, 3, 4, 5, 6], 1)] [7] (by kernel_rfl) (by kernel_rfl) (fun _ _ d _ _ h => by cases d <;> exact h) ?_
          intro wd hbd
          have HBd := Lib.hid hbd
          have HRd := Lib.hid (HRW.out.on hbd)
          have lr : ∀ x : Later (Below wd.heap.size wd), x.w.cell? ⟨r, 0, none⟩ = some (.slice (some ⟨ab, 0, none⟩) m ac) := fun x => later_cell HRd.out.res.lt ((HRd.out.res.cell 0).trans rfl) x
          clear hbd cr
          refine mix_step ?_
          simp only [pickOps, nth]
          (repeat (go_big_quiet_step (fail)))
          go_big_quiet_want
          refine quiet_load 30 _ rfl rfl (fun x => HLD.out x.w (bel_then HBd.out x.ok)) ?_
          go_big_quiet_on
          refine wpQuiet_nil ?_
          clear lr
          have HYY : Hid (Calls Try.prog 13 #[.pointer (some ⟨g, 0, none⟩)] wd fun e w' => e = .returned (.agg #[.int .i64 v, .int .i64 p, .int .i32 u, .int .i64 i, .string tb]) ∧ Below wd.heap.size wd w') := Lib.hid (by have := symbol_is HRd.out.scn _ HX.out; simp only at this; rw [HTB.out] at this; exact this)
          go_wp2_with (refine HYY.out.mono ?_; rintro e we ⟨rfl, hbe⟩; have HBe := Lib.hid hbe; clear hbe)
          refine ⟨HBe.out, mix_end ?_⟩
          simp only [pickOps, nth, Act.put, List.setIfInBounds_toArray, List.set_cons_succ, List.set_cons_zero]
          (repeat (go_big_quiet_step (fail)))
          refine wpQuiet_nil ?_
          have HRe := Lib.hid (HRd.out.on HBe.out)
          have f7 : True := trivial
          have f8 : True := trivial
          go_wp2_with (first | (have _f := f7; refine (err_is HRe.out.scn 0 0 HE.out.1 HE.out.2).mono ?_; rintro e wf ⟨rfl, hb⟩; have HRf := Lib.hid (HRe.out.on hb); clear hb _f f7) | (have _f := f8; refine (get_is HRf.out.scn HRf.out.lt).mono ?_; rintro e wg ⟨rfl, h6, k6⟩; have HRg := Lib.hid (HRf.out.got h6 k6); clear h6 k6 _f f8))
          go_roundg (gk - 1)
          case measure => have := HG.out; have := HJM.out; omega
          case rel => exact ⟨j + 1, by go_num, HJM.out, by have := HG.out; omega, HRg.out⟩
        · have hjm2 : j = m := by omega
          subst hjm2
          clear hj hgk hrw hjm
          obtain ⟨_, hE, hP, ⟨X, hX, hXP⟩, hget, hnm⟩ := HFX.out
          have HE := Lib.hid hE
          have HP := Lib.hid hP
          have HX := Lib.hid hX
          have HGET := Lib.hid hget
          have HNM := Lib.hid hnm
          have HCASE : Hid (E = 0 ∨ ((E != 0) = true ∧ X = P)) := Lib.hid (by
            by_cases h : E = 0
            · exact .inl h
            · exact .inr ⟨by simpa using h, hXP h⟩)
          have hsm := sym_same 0 X 0 0 ⟨#[]⟩
          have HSN := Lib.hid (fun w' : World => Sep.nil w')
          have nl0 : (0 : Int) ≤ nms.length := by omega
          have nl1 : (nms.length : Int) ≤ 700 := by obtain ⟨_, _, _, _, hh⟩ := HRW.out.scn; have := hh.ok.nm; rw [HNM.out] at this; omega
          clear hE hP hX hXP hget hnm
          have f1 : True := trivial
          have f2 : True := trivial
          have f3 : True := trivial
          have f4 : True := trivial
          have f5 : True := trivial
          rcases HCASE.out with hq | ⟨hq, hXP⟩
          · subst hq
            go_wp2_with (first | (have _f := f1; refine (err_is HRW.out.scn _ _ HE.out HP.out).mono ?_; rintro e wa ⟨rfl, hb⟩; have HRa := Lib.hid (HRW.out.on hb); clear hb _f f1) | (have _f := f2; refine (symbol_is HRa.out.scn _ HX.out).mono ?_; rintro e wb ⟨rfl, hb⟩; have HRb := Lib.hid (HRa.out.on hb); clear hb _f f2) | (have _f := f3; refine alloc_sep rfl 30 rfl (HSN.out _) (z := .agg #[.int .i64 0, .int .i64 0, .int .i32 0, .int .i64 0, .string ⟨#[]⟩]) (cs := #[.int .i64 0, .int .i64 0, .int .i32 0, .int .i64 0, .string ⟨#[]⟩]) (by kernel_rfl) rfl ?_; intro wc S' b' s'; have HSc := Lib.hid S'; have HBc := Lib.hid b'; clear S' b' s' _f f3) | (have _f := f4; refine store_sep (cells := #[.int .i64 0, .int .i64 X, .int .i32 0, .int .i64 0, .string ⟨#[]⟩]) rfl 30 (.tmp 11) (.tmp 71) rfl HSc.out 0 rfl rfl rfl (by kernel_rfl) rfl rfl ?_; intro we S' k' s'; have HSe := Lib.hid S'; have HRe := Lib.hid (HRb.out.more (((Ke.below (· = wb.heap.size) HBc.out).trans k').toBelow (fun i hi e => absurd e (Nat.ne_of_lt hi)))); have HXL := Lib.hid ((S'.at 0 rfl).lt); have c2 : we.cell? ⟨r, 2, none⟩ = some (.int .i64 0) := (HRe.out.res.cell 2).trans rfl; have c3 : we.cell? ⟨r, 3, none⟩ = some (.int .i64 P) := (HRe.out.res.cell 3).trans rfl; have x0 : we.cell? ⟨wb.heap.size, 0, none⟩ = some (.int .i64 0) := ((S'.at 0 rfl).cell 0).trans rfl; have x1 : we.cell? ⟨wb.heap.size, 1, none⟩ = some (.int .i64 X) := ((S'.at 0 rfl).cell 1).trans rfl; clear S' k' s' _f f4) | (have _f := f5; refine (get_is HRe.out.scn HRe.out.lt).mono ?_; rw [HGET.out]; rintro e wf ⟨rfl, h6, k6⟩; have HRf := Lib.hid (HRe.out.got h6 k6); have HXf := Lib.hid ((HSe.out.at 0 rfl).ke k6 (fun e => e (.inr ⟨Nat.le_refl _, HXL.out⟩))); clear h6 k6 c2 c3 x0 x1 _f f5))
            refine wp_region_mix' [([0, 2], 1), ([3, 4, 5, 7, 8, 9], 6)] [10, 11] (by kernel_rfl) (by kernel_rfl) (fun _ _ d _ _ h => by cases d <;> exact h) ?_
            intro wd hbd
            have HRd := Lib.hid (HRf.out.on hbd)
            have HXd := Lib.hid (HXf.out.bel hbd)
            clear hbd
            refine mix_step ?_
            simp only [pickOps, nth]
            (repeat (go_big_quiet_step (fail)))
            go_big_quiet_want
            refine quiet_load 30 _ rfl rfl (fun x => (HXd.out.laterB x).loads Try.underlying30 rfl (by kernel_rfl)) ?_
            go_big_quiet_on
            refine wpQuiet_nil ?_
            go_wp2_with (refine (show Calls Try.prog 13 #[.pointer (some ⟨g, 0, none⟩)] wd fun e w' => e = .returned (.agg #[.int .i64 0, .int .i64 X, .int .i32 0, .int .i64 0, .string ⟨#[]⟩]) ∧ Below wd.heap.size wd w' from symbol_is HRd.out.scn _ HX.out).mono ?_; rintro e wh ⟨rfl, hb⟩; have HBh := Lib.hid hb; clear hb)
            have HRh := Lib.hid (HRd.out.on HBh.out)
            have lr : ∀ x : Later (Below wh.heap.size wh), x.w.cell? ⟨r, 1, none⟩ = some (.slice np nms.length nc) := fun x => later_cell HRh.out.res.lt ((HRh.out.res.cell 1).trans rfl) x
            refine ⟨HBh.out, mix_step ?_⟩
            simp only [pickOps, nth, Act.put, List.setIfInBounds_toArray, List.set_cons_succ, List.set_cons_zero]
            (repeat (go_big_quiet_step (fail)))
            refine wpQuiet_nil ?_
            clear lr
            go_wp2_with (refine (names_is2 HRh.out.scn nms.length (by rw [HNM.out])).mono ?_; rintro e wi ⟨rfl, rfl⟩)
            refine ⟨Below.refl _ _, mix_end ?_⟩
            simp only [pickOps, nth, Act.put, List.setIfInBounds_toArray, List.set_cons_succ, List.set_cons_zero]
            (repeat (go_big_quiet_step (fail)))
            refine wpQuiet_nil ?_
            go_wp2
            obtain ⟨bn, on, hnp, hnc⟩ : ∃ bn on, (0 < nms.length → np = some ⟨bn, on, none⟩) ∧ ∀ q, q < nms.length → wh.cell? ⟨bn, on + q, none⟩ = some (nameV (nms.getD q [])) := by
              obtain ⟨p, d, he, hr⟩ := RdC.own HRh.out.n
              simp only [Value.slice.injEq] at he
              obtain ⟨rfl, _, rfl⟩ := he
              obtain ⟨bn, on, h1, h2⟩ := hr.at'
              refine ⟨bn, on, fun h0 => (h1 (by simpa using h0)).1, fun q hq => h2 q _ ?_⟩
              rw [List.getElem?_map, List.getElem?_eq_getElem hq, List.getD_eq_getElem?_getD, List.getElem?_eq_getElem hq]; rfl
            have HNP := Lib.hid hnp
            have HNC := Lib.hid hnc
            clear hnp hnc
            go_loopg [12, 13] (nms.length + 2) (fun gk iv sv wr => ∃ i : Int, iv = .int .i64 i ∧ -1 ≤ i ∧ i ≤ nms.length + 1 ∧ (nms.length : Int) + 1 - i ≤ gk ∧ wr = wh)
            case atStart => exact ⟨-1, rfl, Int.le_refl _, by omega, by omega, rfl⟩
            case round =>
              obtain ⟨i, rfl, hi1, hi2, hgi, rfl⟩ := hrel
              have HGI := Lib.hid hgi
              have HI1 := Lib.hid hi1
              have HI2 := Lib.hid hi2
              have cn : wr.cell? ⟨r, 1, none⟩ = some (.slice np nms.length nc) := (HRh.out.res.cell 1).trans rfl
              by_cases hiN : i ≤ nms.length
              · have HIN := Lib.hid hiN
                obtain ⟨xs, hxs⟩ : ∃ xs : ByteArray, nameV ((gets (newS l) j).nameOf i) = .string xs := ⟨_, rfl⟩
                have HXS := Lib.hid hxs
                by_cases hin : 0 ≤ i ∧ i < nms.length
                · obtain ⟨q, rfl⟩ := Int.eq_ofNat_of_zero_le hin.1
                  have hq : q < nms.length := by have := hin.2; omega
                  obtain rfl := HNP.out (by omega)
                  have cq := HNC.out q hq
                  have hnm : (gets (newS l) j).nameOf q = nms.getD q [] := by
                    unfold Sc.nameOf
                    rw [HNM.out, if_pos ⟨by omega, by omega⟩]; rfl
                  rw [← hnm, hxs] at cq
                  have q1 : ¬ (q : Int) < 0 := by omega
                  have q2 : ¬ (nms.length : Int) ≤ q := by omega
                  have q3 : (q : Int) < nms.length := by omega
                  clear hi1 hi2 hgi hxs hin hq hnm
                  go_wp2_with (refine (name_is HRh.out.scn _ xs HXS.out).mono ?_; rintro e wj ⟨rfl, rfl⟩)
                  go_roundg (gk - 1)
                  case measure => have := HGI.out; have := HI2.out; have := HIN.out; omega
                  case rel => exact ⟨(q : Int) + 1, by go_num, by omega, by omega, by have := HGI.out; omega, rfl⟩
                · have hnm : (gets (newS l) j).nameOf i = [] := by
                    unfold Sc.nameOf
                    rw [HNM.out, if_neg hin]
                  have hxe : xs = ⟨#[]⟩ := by
                    rw [hnm] at hxs
                    unfold nameV at hxs
                    simp only [Value.string.injEq] at hxs
                    exact hxs.symm
                  subst hxe
                  have hcs : i < 0 ∨ (¬ i < 0 ∧ (nms.length : Int) ≤ i) := by omega
                  clear hi2 hgi hxs hin hnm
                  rcases hcs with q1 | ⟨q1, q2⟩
                  · go_wp2_with (refine (name_is HRh.out.scn _ _ HXS.out).mono ?_; rintro e wj ⟨rfl, rfl⟩)
                    go_roundg (gk - 1)
                    case measure => have := HGI.out; have := HI2.out; have := HIN.out; omega
                    case rel => exact ⟨i + 1, by go_num, by have := HI1.out; omega, by have := HIN.out; omega, by have := HGI.out; omega, rfl⟩
                  · go_wp2_with (refine (name_is HRh.out.scn _ _ HXS.out).mono ?_; rintro e wj ⟨rfl, rfl⟩)
                    go_roundg (gk - 1)
                    case measure => have := HGI.out; have := HI2.out; have := HIN.out; omega
                    case rel => exact ⟨i + 1, by go_num, by have := HI1.out; omega, by have := HIN.out; omega, by have := HGI.out; omega, rfl⟩
              · clear hi1 hi2 hgi
                go_wp2_with (refine (known_walk _).mono ?_; rintro e w13 ⟨rfl, hb⟩; have B13 := Lib.hid (bel_then HRh.out.bel hb); clear hb)
                go_ret
                exact ⟨rfl, B13.out⟩
          · obtain rfl := hXP.symm
            go_wp2_with (first | (have _f := f1; refine (err_is HRW.out.scn _ _ HE.out HP.out).mono ?_; rintro e wa ⟨rfl, hb⟩; have HRa := Lib.hid (HRW.out.on hb); clear hb _f f1) | (have _f := f2; refine (symbol_is HRa.out.scn _ HX.out).mono ?_; rintro e wb ⟨rfl, hb⟩; have HRb := Lib.hid (HRa.out.on hb); clear hb _f f2) | (have _f := f3; refine alloc_sep rfl 30 rfl (HSN.out _) (z := .agg #[.int .i64 0, .int .i64 0, .int .i32 0, .int .i64 0, .string ⟨#[]⟩]) (cs := #[.int .i64 0, .int .i64 0, .int .i32 0, .int .i64 0, .string ⟨#[]⟩]) (by kernel_rfl) rfl ?_; intro wc S' b' s'; have HSc := Lib.hid S'; have HBc := Lib.hid b'; clear S' b' s' _f f3) | (have _f := f4; refine store_sep (cells := #[.int .i64 0, .int .i64 P, .int .i32 0, .int .i64 0, .string ⟨#[]⟩]) rfl 30 (.tmp 11) (.tmp 71) rfl HSc.out 0 rfl rfl rfl (by kernel_rfl) rfl rfl ?_; intro we S' k' s'; have HSe := Lib.hid S'; have HRe := Lib.hid (HRb.out.more (((Ke.below (· = wb.heap.size) HBc.out).trans k').toBelow (fun i hi e => absurd e (Nat.ne_of_lt hi)))); have HXL := Lib.hid ((S'.at 0 rfl).lt); have c2 : we.cell? ⟨r, 2, none⟩ = some (.int .i64 E) := (HRe.out.res.cell 2).trans rfl; have c3 : we.cell? ⟨r, 3, none⟩ = some (.int .i64 P) := (HRe.out.res.cell 3).trans rfl; have x0 : we.cell? ⟨wb.heap.size, 0, none⟩ = some (.int .i64 0) := ((S'.at 0 rfl).cell 0).trans rfl; have x1 : we.cell? ⟨wb.heap.size, 1, none⟩ = some (.int .i64 P) := ((S'.at 0 rfl).cell 1).trans rfl; clear S' k' s' _f f4) | (have _f := f5; refine (get_is HRe.out.scn HRe.out.lt).mono ?_; rw [HGET.out]; rintro e wf ⟨rfl, h6, k6⟩; have HRf := Lib.hid (HRe.out.got h6 k6); have HXf := Lib.hid ((HSe.out.at 0 rfl).ke k6 (fun e => e (.inr ⟨Nat.le_refl _, HXL.out⟩))); clear h6 k6 c2 c3 x0 x1 _f f5))
            refine wp_region_mix' [([0, 2], 1), ([3, 4, 5, 7, 8, 9], 6)] [10, 11] (by kernel_rfl) (by kernel_rfl) (fun _ _ d _ _ h => by cases d <;> exact h) ?_
            intro wd hbd
            have HRd := Lib.hid (HRf.out.on hbd)
            have HXd := Lib.hid (HXf.out.bel hbd)
            clear hbd
            refine mix_step ?_
            simp only [pickOps, nth]
            (repeat (go_big_quiet_step (fail)))
            go_big_quiet_want
            refine quiet_load 30 _ rfl rfl (fun x => (HXd.out.laterB x).loads Try.underlying30 rfl (by kernel_rfl)) ?_
            go_big_quiet_on
            refine wpQuiet_nil ?_
            go_wp2_with (refine (show Calls Try.prog 13 #[.pointer (some ⟨g, 0, none⟩)] wd fun e w' => e = .returned (.agg #[.int .i64 0, .int .i64 P, .int .i32 0, .int .i64 0, .string ⟨#[]⟩]) ∧ Below wd.heap.size wd w' from symbol_is HRd.out.scn _ HX.out).mono ?_; rintro e wh ⟨rfl, hb⟩; have HBh := Lib.hid hb; clear hb)
            have HRh := Lib.hid (HRd.out.on HBh.out)
            have lr : ∀ x : Later (Below wh.heap.size wh), x.w.cell? ⟨r, 1, none⟩ = some (.slice np nms.length nc) := fun x => later_cell HRh.out.res.lt ((HRh.out.res.cell 1).trans rfl) x
            refine ⟨HBh.out, mix_step ?_⟩
            simp only [pickOps, nth, Act.put, List.setIfInBounds_toArray, List.set_cons_succ, List.set_cons_zero]
            (repeat (go_big_quiet_step (fail)))
            refine wpQuiet_nil ?_
            clear lr
            go_wp2_with (refine (names_is2 HRh.out.scn nms.length (by rw [HNM.out])).mono ?_; rintro e wi ⟨rfl, rfl⟩)
            refine ⟨Below.refl _ _, mix_end ?_⟩
            simp only [pickOps, nth, Act.put, List.setIfInBounds_toArray, List.set_cons_succ, List.set_cons_zero]
            (repeat (go_big_quiet_step (fail)))
            refine wpQuiet_nil ?_
            go_wp2
            obtain ⟨bn, on, hnp, hnc⟩ : ∃ bn on, (0 < nms.length → np = some ⟨bn, on, none⟩) ∧ ∀ q, q < nms.length → wh.cell? ⟨bn, on + q, none⟩ = some (nameV (nms.getD q [])) := by
              obtain ⟨p, d, he, hr⟩ := RdC.own HRh.out.n
              simp only [Value.slice.injEq] at he
              obtain ⟨rfl, _, rfl⟩ := he
              obtain ⟨bn, on, h1, h2⟩ := hr.at'
              refine ⟨bn, on, fun h0 => (h1 (by simpa using h0)).1, fun q hq => h2 q _ ?_⟩
              rw [List.getElem?_map, List.getElem?_eq_getElem hq, List.getD_eq_getElem?_getD, List.getElem?_eq_getElem hq]; rfl
            have HNP := Lib.hid hnp
            have HNC := Lib.hid hnc
            clear hnp hnc
            go_loopg [12, 13] (nms.length + 2) (fun gk iv sv wr => ∃ i : Int, iv = .int .i64 i ∧ -1 ≤ i ∧ i ≤ nms.length + 1 ∧ (nms.length : Int) + 1 - i ≤ gk ∧ wr = wh)
            case atStart => exact ⟨-1, rfl, Int.le_refl _, by omega, by omega, rfl⟩
            case round =>
              obtain ⟨i, rfl, hi1, hi2, hgi, rfl⟩ := hrel
              have HGI := Lib.hid hgi
              have HI1 := Lib.hid hi1
              have HI2 := Lib.hid hi2
              have cn : wr.cell? ⟨r, 1, none⟩ = some (.slice np nms.length nc) := (HRh.out.res.cell 1).trans rfl
              by_cases hiN : i ≤ nms.length
              · have HIN := Lib.hid hiN
                obtain ⟨xs, hxs⟩ : ∃ xs : ByteArray, nameV ((gets (newS l) j).nameOf i) = .string xs := ⟨_, rfl⟩
                have HXS := Lib.hid hxs
                by_cases hin : 0 ≤ i ∧ i < nms.length
                · obtain ⟨q, rfl⟩ := Int.eq_ofNat_of_zero_le hin.1
                  have hq : q < nms.length := by have := hin.2; omega
                  obtain rfl := HNP.out (by omega)
                  have cq := HNC.out q hq
                  have hnm : (gets (newS l) j).nameOf q = nms.getD q [] := by
                    unfold Sc.nameOf
                    rw [HNM.out, if_pos ⟨by omega, by omega⟩]; rfl
                  rw [← hnm, hxs] at cq
                  have q1 : ¬ (q : Int) < 0 := by omega
                  have q2 : ¬ (nms.length : Int) ≤ q := by omega
                  have q3 : (q : Int) < nms.length := by omega
                  clear hi1 hi2 hgi hxs hin hq hnm
                  go_wp2_with (refine (name_is HRh.out.scn _ xs HXS.out).mono ?_; rintro e wj ⟨rfl, rfl⟩)
                  go_roundg (gk - 1)
                  case measure => have := HGI.out; have := HI2.out; have := HIN.out; omega
                  case rel => exact ⟨(q : Int) + 1, by go_num, by omega, by omega, by have := HGI.out; omega, rfl⟩
                · have hnm : (gets (newS l) j).nameOf i = [] := by
                    unfold Sc.nameOf
                    rw [HNM.out, if_neg hin]
                  have hxe : xs = ⟨#[]⟩ := by
                    rw [hnm] at hxs
                    unfold nameV at hxs
                    simp only [Value.string.injEq] at hxs
                    exact hxs.symm
                  subst hxe
                  have hcs : i < 0 ∨ (¬ i < 0 ∧ (nms.length : Int) ≤ i) := by omega
                  clear hi2 hgi hxs hin hnm
                  rcases hcs with q1 | ⟨q1, q2⟩
                  · go_wp2_with (refine (name_is HRh.out.scn _ _ HXS.out).mono ?_; rintro e wj ⟨rfl, rfl⟩)
                    go_roundg (gk - 1)
                    case measure => have := HGI.out; have := HI2.out; have := HIN.out; omega
                    case rel => exact ⟨i + 1, by go_num, by have := HI1.out; omega, by have := HIN.out; omega, by have := HGI.out; omega, rfl⟩
                  · go_wp2_with (refine (name_is HRh.out.scn _ _ HXS.out).mono ?_; rintro e wj ⟨rfl, rfl⟩)
                    go_roundg (gk - 1)
                    case measure => have := HGI.out; have := HI2.out; have := HIN.out; omega
                    case rel => exact ⟨i + 1, by go_num, by have := HI1.out; omega, by have := HIN.out; omega, by have := HGI.out; omega, rfl⟩
              · clear hi1 hi2 hgi
                go_wp2_with (refine (known_walk _).mono ?_; rintro e w13 ⟨rfl, hb⟩; have B13 := Lib.hid (bel_then HRh.out.bel hb); clear hb)
                go_ret
                exact ⟨rfl, B13.out⟩
    · have hz' : ¬ (0 : Int) < l.length := by omega
      have hzb : decide ((0 : Int) < l.length) = false := decide_eq_false hz'
      have hzN : decide (0 < l.length) = false := decide_eq_false hz
      clear hz
      go_enter Try.func7, Try.ntmps7
      go_wp2_with (first | (have _f := f1; at_builtin; refine append_at rfl (.const (.slice none 0 0)) (.tmp 18) et_u8' rfl w.heap.size rfl ownsRow_nil5 rfl HRD.out.row (by simp) HONE.out HBY.out HB63.out (Nat.le_refl _) ?_; intro v1 w1 own1 gr1 at1; rw [Nat.zero_add, List.nil_append] at own1; have HB1 : Hid (Below w.heap.size w w1) := Lib.hid ((Ke.ofGrown gr1).toBelow (fun i _ e => by cases e)); have HO1 := Lib.hid own1; obtain ⟨oa, oc, rfl, rd1⟩ := RdC.own own1; have HRO : Hid (RdI .u8 w1 oa oc l) := Lib.hid (by obtain ⟨a', c', e, hh⟩ := RdI.own own1 HRD.out.bd; simp only [Value.slice.injEq] at e; obtain ⟨rfl, _, rfl⟩ := e; exact hh); clear own1 gr1 at1 rd1; clear _f f1) | (have _f := f2; refine (new_walk HRO.out HL.out).mono ?_; rintro e w2 ⟨g, rfl, hs, hb⟩; have HS2 := Lib.hid hs; have HB2 := Lib.hid hb; clear hs hb _f f2) | (have _f := f3; refine (scan_ref (HRD.out.below (bel_then HB1.out HB2.out) (Nat.le_refl _)) HL.out).mono ?_; rintro e w3 ⟨A, N, m, E, P, nms, rfl, hb, ha, hn, hcs⟩; have HB3 := Lib.hid hb; have HA3 := Lib.hid ha; have HN3 := Lib.hid hn; have HCS := Lib.hid hcs; have HSE3 := Lib.hid (Sep.nil w3); clear hb ha hn hcs; obtain ⟨ap, ac, rfl, _⟩ := RdC.own HA3.out; obtain ⟨np, nc, rfl, _⟩ := RdC.own HN3.out; clear _f f3) | (have _f := f4; refine alloc_sep rfl 42 rfl HSE3.out (z := .agg #[.slice none 0 0, .slice none 0 0, .int .i64 0, .int .i64 0]) (cs := #[.slice none 0 0, .slice none 0 0, .int .i64 0, .int .i64 0]) (by kernel_rfl) rfl ?_; intro w4 S' b' s'; have HSE4 := Lib.hid S'; have HB4 := Lib.hid b'; clear S' b' s' _f f4) | (have _f := f5; refine store_sep (cells := #[.slice ap m ac, .slice np nms.length nc, .int .i64 E, .int .i64 P]) rfl 42 (.tmp 5) (.tmp 23) rfl HSE4.out 0 rfl rfl rfl (by kernel_rfl) rfl rfl ?_; intro w5 S' k' s'; have HSE5 := Lib.hid S'; have HB5 : Hid (Below w3.heap.size w3 w5) := Lib.hid (((Ke.below (· = w3.heap.size) HB4.out).trans k').toBelow (fun i hi e => absurd e (Nat.ne_of_lt hi))); have HSZ5 := Lib.hid (show w3.heap.size < w5.heap.size from (S'.at 0 rfl).lt); clear S' k' s'; have HW5 := Lib.hid (bel_then (bel_then (bel_then HB1.out HB2.out) HB3.out) HB5.out); have hcv1 : (convert 23 9 (.slice oa l.length oc)).run Try.prog w5 = .ok (.string xb) w5 := strv HRO.out HXB.out (bel_then (bel_then HB2.out HB3.out) HB5.out); have hcv2 : (convert 23 9 (.slice a0 l.length c0)).run Try.prog w5 = .ok (.string xb) w5 := strv HRD.out HXB.out HW5.out; clear _f f5))
      have HFX := Lib.hid (res_facts HCS.out)
      obtain ⟨F, hF⟩ : ∃ F : Nat → Prop, F = (fun i => i < w1.heap.size ∨ (w2.heap.size ≤ i ∧ i < w5.heap.size)) := ⟨_, rfl⟩
      have HRW0 : Hid (RdW w F w5 g w3.heap.size (newS l) (.slice ap m ac) (.slice np nms.length nc) E P m (symsC ((List.range m).map fun j => (gets (newS l) j).sym)) nms) := Lib.hid (by rw [hF]; exact RdW.start HS2.out HB1.out HB2.out HB3.out HB5.out (HSE5.out.at 0 rfl) HA3.out HN3.out)
      obtain ⟨r, hr⟩ : ∃ r, r = w3.heap.size := ⟨_, rfl⟩
      rw [← hr] at HRW0 ⊢
      have m0 : (0 : Int) ≤ m := by omega
      clear hF hr HSE5 HW5 HSE4 HB4 HB5 HSZ5 HSE3 HA3 HN3 HB3 HS2 HB2 HRO HO1 HB1
      (try rw [hzN])
      clear hzb hzN hz'
      go_loopg [6] m (fun gk iv wr => ∃ j : Nat, iv = .int .i64 j ∧ j ≤ m ∧ m - j ≤ gk ∧ RdW w F wr g r (gets (newS l) j) (.slice ap m ac) (.slice np nms.length nc) E P m (symsC ((List.range m).map fun j => (gets (newS l) j).sym)) nms)
      case atStart => exact ⟨0, rfl, Nat.zero_le _, Nat.le_refl _, HRW0.out⟩
      case round =>
        obtain ⟨j, rfl, hj, hgk, hrw⟩ := hrel
        have HRW := Lib.hid hrw
        have HG := Lib.hid hgk
        have j0 : (0 : Int) ≤ j := by omega
        have HMZ := Lib.hid (own_le hrw.a)
        have m1 : (m : Int) ≤ 9223372036854775807 := by have := HMZ.out; omega
        have cr : wr.cell? ⟨r, 0, none⟩ = some (.slice ap m ac) := (hrw.res.cell 0).trans rfl
        by_cases hjm : j < m
        · have hjm' : (j : Int) < m := by omega
          have HJM := Lib.hid hjm
          obtain ⟨ab, rfl, _, hab, hac⟩ := row_cells hrw.a (by rw [symsC_len, List.length_map, List.length_range]; omega)
          have HAB := Lib.hid hab
          have HAC := Lib.hid hac
          obtain ⟨⟨v, p, u, i, t⟩, hx⟩ : ∃ x, (gets (newS l) j).sym = x := ⟨_, rfl⟩
          obtain ⟨tb, htb⟩ : ∃ tb : ByteArray, (⟨t.toArray⟩ : ByteArray) = tb := ⟨_, rfl⟩
          have HX := Lib.hid hx
          have HTB := Lib.hid htb
          have HLD : Hid (∀ w', Below wr.heap.size wr w' → (Instr.loadAt 30 (.pointer (some ⟨ab, j * 5, none⟩))).run Try.prog w' = .ok (.agg #[.int .i64 v, .int .i64 p, .int .i32 u, .int .i64 i, .string tb]) w') := Lib.hid (fun w' k => load_mid (cs := [.int .i64 v, .int .i64 p, .int .i32 u, .int .i64 i, .string tb]) (fun q y hy => by
            refine (k.cell (p := ⟨ab, j * 5 + q, none⟩) hab).trans (hac _ y ?_)
            have hq : q < 5 := by
              rcases Nat.lt_or_ge q 5 with h | h
              · exact h
              · rw [List.getElem?_eq_none (by simpa using h)] at hy; cases hy
            rw [symsC_at _ m j hjm q hq, hx]
            unfold symC nameV
            rw [htb]
            exact hy) Try.underlying30 rfl (by kernel_rfl))
          have HE := Lib.hid (HFX.out.1 j hjm)
          have hsm := sym_same v p u i tb
          clear hrw hgk hj hjm hab hac hx htb
          go_wp2
          refine wp_region_mix' [([0, 2, 3, 4, 5, 6], 1)] [7] (by kernel_rfl) (by kernel_rfl) (fun _ _ d _ _ h => by cases d <;> exact h) ?_
          intro wd hbd
          have HBd := Lib.hid hbd
          have HRd := Lib.hid (HRW.out.on hbd)
          have lr : ∀ x : Later (Below wd.heap.size wd), x.w.cell? ⟨r, 0, none⟩ = some (.slice (some ⟨ab, 0, none⟩) m ac) := fun x => later_cell HRd.out.res.lt ((HRd.out.res.cell 0).trans rfl) x
          clear hbd cr
          refine mix_step ?_
          simp only [pickOps, nth]
          (repeat (go_big_quiet_step (fail)))
          go_big_quiet_want
          refine quiet_load 30 _ rfl rfl (fun x => HLD.out x.w (bel_then HBd.out x.ok)) ?_
          go_big_quiet_on
          refine wpQuiet_nil ?_
          clear lr
          have HYY : Hid (Calls Try.prog 13 #[.pointer (some ⟨g, 0, none⟩)] wd fun e w' => e = .returned (.agg #[.int .i64 v, .int .i64 p, .int .i32 u, .int .i64 i, .string tb]) ∧ Below wd.heap.size wd w') := Lib.hid (by have := symbol_is HRd.out.scn _ HX.out; simp only at this; rw [HTB.out] at this; exact this)
          go_wp2_with (refine HYY.out.mono ?_; rintro e we ⟨rfl, hbe⟩; have HBe := Lib.hid hbe; clear hbe)
          refine ⟨HBe.out, mix_end ?_⟩
          simp only [pickOps, nth, Act.put, List.setIfInBounds_toArray, List.set_cons_succ, List.set_cons_zero]
          (repeat (go_big_quiet_step (fail)))
          refine wpQuiet_nil ?_
          have HRe := Lib.hid (HRd.out.on HBe.out)
          have f7 : True := trivial
          have f8 : True := trivial
          go_wp2_with (first | (have _f := f7; refine (err_is HRe.out.scn 0 0 HE.out.1 HE.out.2).mono ?_; rintro e wf ⟨rfl, hb⟩; have HRf := Lib.hid (HRe.out.on hb); clear hb _f f7) | (have _f := f8; refine (get_is HRf.out.scn HRf.out.lt).mono ?_; rintro e wg ⟨rfl, h6, k6⟩; have HRg := Lib.hid (HRf.out.got h6 k6); clear h6 k6 _f f8))
          go_roundg (gk - 1)
          case measure => have := HG.out; have := HJM.out; omega
          case rel => exact ⟨j + 1, by go_num, HJM.out, by have := HG.out; omega, HRg.out⟩
        · have hjm2 : j = m := by omega
          subst hjm2
          clear hj hgk hrw hjm
          obtain ⟨_, hE, hP, ⟨X, hX, hXP⟩, hget, hnm⟩ := HFX.out
          have HE := Lib.hid hE
          have HP := Lib.hid hP
          have HX := Lib.hid hX
          have HGET := Lib.hid hget
          have HNM := Lib.hid hnm
          have HCASE : Hid (E = 0 ∨ ((E != 0) = true ∧ X = P)) := Lib.hid (by
            by_cases h : E = 0
            · exact .inl h
            · exact .inr ⟨by simpa using h, hXP h⟩)
          have hsm := sym_same 0 X 0 0 ⟨#[]⟩
          have HSN := Lib.hid (fun w' : World => Sep.nil w')
          have nl0 : (0 : Int) ≤ nms.length := by omega
          have nl1 : (nms.length : Int) ≤ 700 := by obtain ⟨_, _, _, _, hh⟩ := HRW.out.scn; have := hh.ok.nm; rw [HNM.out] at this; omega
          clear hE hP hX hXP hget hnm
          have f1 : True := trivial
          have f2 : True := trivial
          have f3 : True := trivial
          have f4 : True := trivial
          have f5 : True := trivial
          rcases HCASE.out with hq | ⟨hq, hXP⟩
          · subst hq
            go_wp2_with (first | (have _f := f1; refine (err_is HRW.out.scn _ _ HE.out HP.out).mono ?_; rintro e wa ⟨rfl, hb⟩; have HRa := Lib.hid (HRW.out.on hb); clear hb _f f1) | (have _f := f2; refine (symbol_is HRa.out.scn _ HX.out).mono ?_; rintro e wb ⟨rfl, hb⟩; have HRb := Lib.hid (HRa.out.on hb); clear hb _f f2) | (have _f := f3; refine alloc_sep rfl 30 rfl (HSN.out _) (z := .agg #[.int .i64 0, .int .i64 0, .int .i32 0, .int .i64 0, .string ⟨#[]⟩]) (cs := #[.int .i64 0, .int .i64 0, .int .i32 0, .int .i64 0, .string ⟨#[]⟩]) (by kernel_rfl) rfl ?_; intro wc S' b' s'; have HSc := Lib.hid S'; have HBc := Lib.hid b'; clear S' b' s' _f f3) | (have _f := f4; refine store_sep (cells := #[.int .i64 0, .int .i64 X, .int .i32 0, .int .i64 0, .string ⟨#[]⟩]) rfl 30 (.tmp 11) (.tmp 71) rfl HSc.out 0 rfl rfl rfl (by kernel_rfl) rfl rfl ?_; intro we S' k' s'; have HSe := Lib.hid S'; have HRe := Lib.hid (HRb.out.more (((Ke.below (· = wb.heap.size) HBc.out).trans k').toBelow (fun i hi e => absurd e (Nat.ne_of_lt hi)))); have HXL := Lib.hid ((S'.at 0 rfl).lt); have c2 : we.cell? ⟨r, 2, none⟩ = some (.int .i64 0) := (HRe.out.res.cell 2).trans rfl; have c3 : we.cell? ⟨r, 3, none⟩ = some (.int .i64 P) := (HRe.out.res.cell 3).trans rfl; have x0 : we.cell? ⟨wb.heap.size, 0, none⟩ = some (.int .i64 0) := ((S'.at 0 rfl).cell 0).trans rfl; have x1 : we.cell? ⟨wb.heap.size, 1, none⟩ = some (.int .i64 X) := ((S'.at 0 rfl).cell 1).trans rfl; clear S' k' s' _f f4) | (have _f := f5; refine (get_is HRe.out.scn HRe.out.lt).mono ?_; rw [HGET.out]; rintro e wf ⟨rfl, h6, k6⟩; have HRf := Lib.hid (HRe.out.got h6 k6); have HXf := Lib.hid ((HSe.out.at 0 rfl).ke k6 (fun e => e (.inr ⟨Nat.le_refl _, HXL.out⟩))); clear h6 k6 c2 c3 x0 x1 _f f5))
            refine wp_region_mix' [([0, 2], 1), ([3, 4, 5, 7, 8, 9], 6)] [10, 11] (by kernel_rfl) (by kernel_rfl) (fun _ _ d _ _ h => by cases d <;> exact h) ?_
            intro wd hbd
            have HRd := Lib.hid (HRf.out.on hbd)
            have HXd := Lib.hid (HXf.out.bel hbd)
            clear hbd
            refine mix_step ?_
            simp only [pickOps, nth]
            (repeat (go_big_quiet_step (fail)))
            go_big_quiet_want
            refine quiet_load 30 _ rfl rfl (fun x => (HXd.out.laterB x).loads Try.underlying30 rfl (by kernel_rfl)) ?_
            go_big_quiet_on
            refine wpQuiet_nil ?_
            go_wp2_with (refine (show Calls Try.prog 13 #[.pointer (some ⟨g, 0, none⟩)] wd fun e w' => e = .returned (.agg #[.int .i64 0, .int .i64 X, .int .i32 0, .int .i64 0, .string ⟨#[]⟩]) ∧ Below wd.heap.size wd w' from symbol_is HRd.out.scn _ HX.out).mono ?_; rintro e wh ⟨rfl, hb⟩; have HBh := Lib.hid hb; clear hb)
            have HRh := Lib.hid (HRd.out.on HBh.out)
            have lr : ∀ x : Later (Below wh.heap.size wh), x.w.cell? ⟨r, 1, none⟩ = some (.slice np nms.length nc) := fun x => later_cell HRh.out.res.lt ((HRh.out.res.cell 1).trans rfl) x
            refine ⟨HBh.out, mix_step ?_⟩
            simp only [pickOps, nth, Act.put, List.setIfInBounds_toArray, List.set_cons_succ, List.set_cons_zero]
            (repeat (go_big_quiet_step (fail)))
            refine wpQuiet_nil ?_
            clear lr
            go_wp2_with (refine (names_is2 HRh.out.scn nms.length (by rw [HNM.out])).mono ?_; rintro e wi ⟨rfl, rfl⟩)
            refine ⟨Below.refl _ _, mix_end ?_⟩
            simp only [pickOps, nth, Act.put, List.setIfInBounds_toArray, List.set_cons_succ, List.set_cons_zero]
            (repeat (go_big_quiet_step (fail)))
            refine wpQuiet_nil ?_
            go_wp2
            obtain ⟨bn, on, hnp, hnc⟩ : ∃ bn on, (0 < nms.length → np = some ⟨bn, on, none⟩) ∧ ∀ q, q < nms.length → wh.cell? ⟨bn, on + q, none⟩ = some (nameV (nms.getD q [])) := by
              obtain ⟨p, d, he, hr⟩ := RdC.own HRh.out.n
              simp only [Value.slice.injEq] at he
              obtain ⟨rfl, _, rfl⟩ := he
              obtain ⟨bn, on, h1, h2⟩ := hr.at'
              refine ⟨bn, on, fun h0 => (h1 (by simpa using h0)).1, fun q hq => h2 q _ ?_⟩
              rw [List.getElem?_map, List.getElem?_eq_getElem hq, List.getD_eq_getElem?_getD, List.getElem?_eq_getElem hq]; rfl
            have HNP := Lib.hid hnp
            have HNC := Lib.hid hnc
            clear hnp hnc
            go_loopg [12, 13] (nms.length + 2) (fun gk iv sv wr => ∃ i : Int, iv = .int .i64 i ∧ -1 ≤ i ∧ i ≤ nms.length + 1 ∧ (nms.length : Int) + 1 - i ≤ gk ∧ wr = wh)
            case atStart => exact ⟨-1, rfl, Int.le_refl _, by omega, by omega, rfl⟩
            case round =>
              obtain ⟨i, rfl, hi1, hi2, hgi, rfl⟩ := hrel
              have HGI := Lib.hid hgi
              have HI1 := Lib.hid hi1
              have HI2 := Lib.hid hi2
              have cn : wr.cell? ⟨r, 1, none⟩ = some (.slice np nms.length nc) := (HRh.out.res.cell 1).trans rfl
              by_cases hiN : i ≤ nms.length
              · have HIN := Lib.hid hiN
                obtain ⟨xs, hxs⟩ : ∃ xs : ByteArray, nameV ((gets (newS l) j).nameOf i) = .string xs := ⟨_, rfl⟩
                have HXS := Lib.hid hxs
                by_cases hin : 0 ≤ i ∧ i < nms.length
                · obtain ⟨q, rfl⟩ := Int.eq_ofNat_of_zero_le hin.1
                  have hq : q < nms.length := by have := hin.2; omega
                  obtain rfl := HNP.out (by omega)
                  have cq := HNC.out q hq
                  have hnm : (gets (newS l) j).nameOf q = nms.getD q [] := by
                    unfold Sc.nameOf
                    rw [HNM.out, if_pos ⟨by omega, by omega⟩]; rfl
                  rw [← hnm, hxs] at cq
                  have q1 : ¬ (q : Int) < 0 := by omega
                  have q2 : ¬ (nms.length : Int) ≤ q := by omega
                  have q3 : (q : Int) < nms.length := by omega
                  clear hi1 hi2 hgi hxs hin hq hnm
                  go_wp2_with (refine (name_is HRh.out.scn _ xs HXS.out).mono ?_; rintro e wj ⟨rfl, rfl⟩)
                  go_roundg (gk - 1)
                  case measure => have := HGI.out; have := HI2.out; have := HIN.out; omega
                  case rel => exact ⟨(q : Int) + 1, by go_num, by omega, by omega, by have := HGI.out; omega, rfl⟩
                · have hnm : (gets (newS l) j).nameOf i = [] := by
                    unfold Sc.nameOf
                    rw [HNM.out, if_neg hin]
                  have hxe : xs = ⟨#[]⟩ := by
                    rw [hnm] at hxs
                    unfold nameV at hxs
                    simp only [Value.string.injEq] at hxs
                    exact hxs.symm
                  subst hxe
                  have hcs : i < 0 ∨ (¬ i < 0 ∧ (nms.length : Int) ≤ i) := by omega
                  clear hi2 hgi hxs hin hnm
                  rcases hcs with q1 | ⟨q1, q2⟩
                  · go_wp2_with (refine (name_is HRh.out.scn _ _ HXS.out).mono ?_; rintro e wj ⟨rfl, rfl⟩)
                    go_roundg (gk - 1)
                    case measure => have := HGI.out; have := HI2.out; have := HIN.out; omega
                    case rel => exact ⟨i + 1, by go_num, by have := HI1.out; omega, by have := HIN.out; omega, by have := HGI.out; omega, rfl⟩
                  · go_wp2_with (refine (name_is HRh.out.scn _ _ HXS.out).mono ?_; rintro e wj ⟨rfl, rfl⟩)
                    go_roundg (gk - 1)
                    case measure => have := HGI.out; have := HI2.out; have := HIN.out; omega
                    case rel => exact ⟨i + 1, by go_num, by have := HI1.out; omega, by have := HIN.out; omega, by have := HGI.out; omega, rfl⟩
              · clear hi1 hi2 hgi
                go_wp2_with (refine (known_walk _).mono ?_; rintro e w13 ⟨rfl, hb⟩; have B13 := Lib.hid (bel_then HRh.out.bel hb); clear hb)
                go_ret
                exact ⟨rfl, B13.out⟩
          · obtain rfl := hXP.symm
            go_wp2_with (first | (have _f := f1; refine (err_is HRW.out.scn _ _ HE.out HP.out).mono ?_; rintro e wa ⟨rfl, hb⟩; have HRa := Lib.hid (HRW.out.on hb); clear hb _f f1) | (have _f := f2; refine (symbol_is HRa.out.scn _ HX.out).mono ?_; rintro e wb ⟨rfl, hb⟩; have HRb := Lib.hid (HRa.out.on hb); clear hb _f f2) | (have _f := f3; refine alloc_sep rfl 30 rfl (HSN.out _) (z := .agg #[.int .i64 0, .int .i64 0, .int .i32 0, .int .i64 0, .string ⟨#[]⟩]) (cs := #[.int .i64 0, .int .i64 0, .int .i32 0, .int .i64 0, .string ⟨#[]⟩]) (by kernel_rfl) rfl ?_; intro wc S' b' s'; have HSc := Lib.hid S'; have HBc := Lib.hid b'; clear S' b' s' _f f3) | (have _f := f4; refine store_sep (cells := #[.int .i64 0, .int .i64 P, .int .i32 0, .int .i64 0, .string ⟨#[]⟩]) rfl 30 (.tmp 11) (.tmp 71) rfl HSc.out 0 rfl rfl rfl (by kernel_rfl) rfl rfl ?_; intro we S' k' s'; have HSe := Lib.hid S'; have HRe := Lib.hid (HRb.out.more (((Ke.below (· = wb.heap.size) HBc.out).trans k').toBelow (fun i hi e => absurd e (Nat.ne_of_lt hi)))); have HXL := Lib.hid ((S'.at 0 rfl).lt); have c2 : we.cell? ⟨r, 2, none⟩ = some (.int .i64 E) := (HRe.out.res.cell 2).trans rfl; have c3 : we.cell? ⟨r, 3, none⟩ = some (.int .i64 P) := (HRe.out.res.cell 3).trans rfl; have x0 : we.cell? ⟨wb.heap.size, 0, none⟩ = some (.int .i64 0) := ((S'.at 0 rfl).cell 0).trans rfl; have x1 : we.cell? ⟨wb.heap.size, 1, none⟩ = some (.int .i64 P) := ((S'.at 0 rfl).cell 1).trans rfl; clear S' k' s' _f f4) | (have _f := f5; refine (get_is HRe.out.scn HRe.out.lt).mono ?_; rw [HGET.out]; rintro e wf ⟨rfl, h6, k6⟩; have HRf := Lib.hid (HRe.out.got h6 k6); have HXf := Lib.hid ((HSe.out.at 0 rfl).ke k6 (fun e => e (.inr ⟨Nat.le_refl _, HXL.out⟩))); clear h6 k6 c2 c3 x0 x1 _f f5))
            refine wp_region_mix' [([0, 2], 1), ([3, 4, 5, 7, 8, 9], 6)] [10, 11] (by kernel_rfl) (by kernel_rfl) (fun _ _ d _ _ h => by cases d <;> exact h) ?_
            intro wd hbd
            have HRd := Lib.hid (HRf.out.on hbd)
            have HXd := Lib.hid (HXf.out.bel hbd)
            clear hbd
            refine mix_step ?_
            simp only [pickOps, nth]
            (repeat (go_big_quiet_step (fail)))
            go_big_quiet_want
            refine quiet_load 30 _ rfl rfl (fun x => (HXd.out.laterB x).loads Try.underlying30 rfl (by kernel_rfl)) ?_
            go_big_quiet_on
            refine wpQuiet_nil ?_
            go_wp2_with (refine (show Calls Try.prog 13 #[.pointer (some ⟨g, 0, none⟩)] wd fun e w' => e = .returned (.agg #[.int .i64 0, .int .i64 P, .int .i32 0, .int .i64 0, .string ⟨#[]⟩]) ∧ Below wd.heap.size wd w' from symbol_is HRd.out.scn _ HX.out).mono ?_; rintro e wh ⟨rfl, hb⟩; have HBh := Lib.hid hb; clear hb)
            have HRh := Lib.hid (HRd.out.on HBh.out)
            have lr : ∀ x : Later (Below wh.heap.size wh), x.w.cell? ⟨r, 1, none⟩ = some (.slice np nms.length nc) := fun x => later_cell HRh.out.res.lt ((HRh.out.res.cell 1).trans rfl) x
            refine ⟨HBh.out, mix_step ?_⟩
            simp only [pickOps, nth, Act.put, List.setIfInBounds_toArray, List.set_cons_succ, List.set_cons_zero]
            (repeat (go_big_quiet_step (fail)))
            refine wpQuiet_nil ?_
            clear lr
            go_wp2_with (refine (names_is2 HRh.out.scn nms.length (by rw [HNM.out])).mono ?_; rintro e wi ⟨rfl, rfl⟩)
            refine ⟨Below.refl _ _, mix_end ?_⟩
            simp only [pickOps, nth, Act.put, List.setIfInBounds_toArray, List.set_cons_succ, List.set_cons_zero]
            (repeat (go_big_quiet_step (fail)))
            refine wpQuiet_nil ?_
            go_wp2
            obtain ⟨bn, on, hnp, hnc⟩ : ∃ bn on, (0 < nms.length → np = some ⟨bn, on, none⟩) ∧ ∀ q, q < nms.length → wh.cell? ⟨bn, on + q, none⟩ = some (nameV (nms.getD q [])) := by
              obtain ⟨p, d, he, hr⟩ := RdC.own HRh.out.n
              simp only [Value.slice.injEq] at he
              obtain ⟨rfl, _, rfl⟩ := he
              obtain ⟨bn, on, h1, h2⟩ := hr.at'
              refine ⟨bn, on, fun h0 => (h1 (by simpa using h0)).1, fun q hq => h2 q _ ?_⟩
              rw [List.getElem?_map, List.getElem?_eq_getElem hq, List.getD_eq_getElem?_getD, List.getElem?_eq_getElem hq]; rfl
            have HNP := Lib.hid hnp
            have HNC := Lib.hid hnc
            clear hnp hnc
            go_loopg [12, 13] (nms.length + 2) (fun gk iv sv wr => ∃ i : Int, iv = .int .i64 i ∧ -1 ≤ i ∧ i ≤ nms.length + 1 ∧ (nms.length : Int) + 1 - i ≤ gk ∧ wr = wh)
            case atStart => exact ⟨-1, rfl, Int.le_refl _, by omega, by omega, rfl⟩
            case round =>
              obtain ⟨i, rfl, hi1, hi2, hgi, rfl⟩ := hrel
              have HGI := Lib.hid hgi
              have HI1 := Lib.hid hi1
              have HI2 := Lib.hid hi2
              have cn : wr.cell? ⟨r, 1, none⟩ = some (.slice np nms.length nc) := (HRh.out.res.cell 1).trans rfl
              by_cases hiN : i ≤ nms.length
              · have HIN := Lib.hid hiN
                obtain ⟨xs, hxs⟩ : ∃ xs : ByteArray, nameV ((gets (newS l) j).nameOf i) = .string xs := ⟨_, rfl⟩
                have HXS := Lib.hid hxs
                by_cases hin : 0 ≤ i ∧ i < nms.length
                · obtain ⟨q, rfl⟩ := Int.eq_ofNat_of_zero_le hin.1
                  have hq : q < nms.length := by have := hin.2; omega
                  obtain rfl := HNP.out (by omega)
                  have cq := HNC.out q hq
                  have hnm : (gets (newS l) j).nameOf q = nms.getD q [] := by
                    unfold Sc.nameOf
                    rw [HNM.out, if_pos ⟨by omega, by omega⟩]; rfl
                  rw [← hnm, hxs] at cq
                  have q1 : ¬ (q : Int) < 0 := by omega
                  have q2 : ¬ (nms.length : Int) ≤ q := by omega
                  have q3 : (q : Int) < nms.length := by omega
                  clear hi1 hi2 hgi hxs hin hq hnm
                  go_wp2_with (refine (name_is HRh.out.scn _ xs HXS.out).mono ?_; rintro e wj ⟨rfl, rfl⟩)
                  go_roundg (gk - 1)
                  case measure => have := HGI.out; have := HI2.out; have := HIN.out; omega
                  case rel => exact ⟨(q : Int) + 1, by go_num, by omega, by omega, by have := HGI.out; omega, rfl⟩
                · have hnm : (gets (newS l) j).nameOf i = [] := by
                    unfold Sc.nameOf
                    rw [HNM.out, if_neg hin]
                  have hxe : xs = ⟨#[]⟩ := by
                    rw [hnm] at hxs
                    unfold nameV at hxs
                    simp only [Value.string.injEq] at hxs
                    exact hxs.symm
                  subst hxe
                  have hcs : i < 0 ∨ (¬ i < 0 ∧ (nms.length : Int) ≤ i) := by omega
                  clear hi2 hgi hxs hin hnm
                  rcases hcs with q1 | ⟨q1, q2⟩
                  · go_wp2_with (refine (name_is HRh.out.scn _ _ HXS.out).mono ?_; rintro e wj ⟨rfl, rfl⟩)
                    go_roundg (gk - 1)
                    case measure => have := HGI.out; have := HI2.out; have := HIN.out; omega
                    case rel => exact ⟨i + 1, by go_num, by have := HI1.out; omega, by have := HIN.out; omega, by have := HGI.out; omega, rfl⟩
                  · go_wp2_with (refine (name_is HRh.out.scn _ _ HXS.out).mono ?_; rintro e wj ⟨rfl, rfl⟩)
                    go_roundg (gk - 1)
                    case measure => have := HGI.out; have := HI2.out; have := HIN.out; omega
                    case rel => exact ⟨i + 1, by go_num, by have := HI1.out; omega, by have := HIN.out; omega, by have := HGI.out; omega, rfl⟩
              · clear hi1 hi2 hgi
                go_wp2_with (refine (known_walk _).mono ?_; rintro e w13 ⟨rfl, hb⟩; have B13 := Lib.hid (bel_then HRh.out.bel hb); clear hb)
                go_ret
                exact ⟨rfl, B13.out⟩

end Go.Proofs.Ytdgiijidgjagbaa
