/- Contract: face.Find. Printed by bin/gen_facefind.py. -/
import Derived.Test.YtgcjdkgeiopllaaFaceA
import Derived.Test.YtgcjdkgeiopllaaLibC
import Derived.Laws.EntriesVeiled
namespace Go.Proofs.Ytgcjdkgeiopllaa
set_option linter.unusedVariables false
set_option linter.unusedSimpArgs false
open Go.RowKit

theorem et_prm : ET Try.prog 35 66 (.agg #[.bool false, .int .i64 0, .int .i64 0]) 3 24 := ET.of Try.underlying35 (by kernel_rfl) (by decide) (by decide)
theorem prm_one (l : List Prm) : ∀ u ∈ l.flatMap prmD.cells, u.oneCell' = true := by
  intro u hu
  obtain ⟨x, _, hx⟩ := List.mem_flatMap.1 hu
  have hx : u ∈ ([.bool x.var, .int .i64 x.base.mod, .int .i64 x.base.idx] : List Value) := hx
  simp only [List.mem_cons, List.not_mem_nil, or_false] at hx
  rcases hx with rfl | rfl | rfl <;> rfl
theorem bel_keF {G : Nat → Prop} {w0 w w' : World} (h : Below w0.heap.size w0 w) (k : Ke G w w') (hG : ∀ i, G i → w0.heap.size ≤ i) : Below w0.heap.size w0 w' :=
  h.trans ⟨k.os, k.tape, k.output, k.size, fun i hi => k.block i (Nat.lt_of_lt_of_le hi h.size) (fun g => by have := hG i g; omega)⟩

set_option maxHeartbeats 2000000 in
theorem clonePrm_walk (s : Sl Prm) (w : World) (h : Rows prmD w s) (hl : s.l.length ≤ 1000000) :
    Calls Try.prog 27 #[s.val] w fun e w' => ∃ t : Sl Prm, e = .returned t.val ∧ t.l = s.l ∧ Rows prmD w' t ∧ (∀ b o, t.a = some ⟨b, o, none⟩ → w.heap.size ≤ b) ∧ Below w.heap.size w w' := by
  have q0 : ∀ (w : World) (n c : Nat), (binOp .eql 35 (.slice none n c) (.slice none 0 0)).run Try.prog w = .ok (.bool true) w := fun w n c => Lib.run_eql_slice_nil (P := Try.prog) w _ _ none n c 0 0 Try.underlying35
  have q1 : ∀ (w : World) (x : Addr) (n c : Nat), (binOp .eql 35 (.slice (some x) n c) (.slice none 0 0)).run Try.prog w = .ok (.bool false) w := fun w x n c => Lib.run_eql_slice_nil (P := Try.prog) w _ _ (some x) n c 0 0 Try.underlying35
  obtain ⟨a, c, l⟩ := s
  show Calls _ _ #[.slice a l.length c] w _
  dsimp only at hl
  cases a with
  | none =>
    obtain ⟨h1, rfl⟩ := h.row.nil rfl
    dsimp only at h1
    obtain rfl : l = [] := List.length_eq_zero_iff.1 h1
    have HR := Lib.hid h
    clear h h1
    go_enter Try.func27, Try.ntmps27
    go_wp2
    go_ret
    exact ⟨⟨none, 0, []⟩, rfl, rfl, HR.out, fun b o e => (by cases e), Below.refl _ _⟩
  | some p =>
    have HR := Lib.hid h
    have HL := Lib.hid hl
    clear h hl
    have f1 : True := trivial
    have HO : Hid ((w.alloc (.cells #[] 66)).ownsRow w.heap.size 66 3 (.slice (some ⟨w.heap.size, 0, none⟩) 0 0) 0 []) := Lib.hid ⟨rfl, .inr ⟨w.heap.size, 0, #[], rfl, Nat.le_refl _, At.new w #[] 66, Nat.le_refl _, Nat.zero_le _, rfl, rfl⟩⟩
    have HX : Hid (Rows prmD (w.alloc (.cells #[] 66)) ⟨some p, c, l⟩) := Lib.hid (HR.out.bel (bel1 w _))
    go_enter Try.func27, Try.ntmps27
    go_wp2_with (have _f := f1; refine append_at rfl (.tmp 5) (.tmp 6) et_prm rfl w.heap.size rfl HO.out rfl HX.out.row (flat_len prmD l) (prm_one l) (by have := HL.out; omega) (by have := HL.out; omega) (by simp) ?_; intro v' w' ho hg hv; have HO2 := Lib.hid ho; have HG := Lib.hid hg; clear ho hg hv _f f1)
    go_ret
    have ho := HO2.out
    rw [Nat.zero_add, List.nil_append] at ho
    obtain ⟨a', c', rfl, hr⟩ := RdC.own ho
    exact ⟨⟨a', c', l⟩, rfl, rfl, ⟨hr, fun x hx => HR.out.all x hx⟩, fun b o e => (ho.lt b (by dsimp only at e; rw [e]; rfl)).1, bel_keF (bel1 w _) (Ke.ofGrown HG.out) (fun i hi => Nat.le_of_eq (Option.some.inj hi))⟩

/-- the closure that holds an object's name against another one's. -/
theorem objNamed_walk (x : FO) (g : Nat) (s : ByteArray) (w : World) (hg : w.cell? ⟨g, 0, none⟩ = some (.string s)) (hl : g < w.heap.size) :
    Calls Try.prog 26 #[.agg (foD.cells x).toArray, .pointer (some ⟨g, 0, none⟩)] w fun e w' => e = .returned (.bool (decide (x.name = s))) ∧ Below w.heap.size w w' := by
  obtain ⟨cl, on, ⟨bm, bi⟩, va, ⟨pa, pc, pl⟩⟩ := x
  show Calls _ _ #[.agg #[.int .i64 cl, .string on, .int .i64 bm, .int .i64 bi, .int .u32 va, .slice pa pl.length pc], .pointer (some ⟨g, 0, none⟩)] w _
  have HQ : Hid ((on.toList == s.toList) = decide (on = s)) := Lib.hid (by
    by_cases h : on = s
    · rw [str_same h, decide_eq_true h]
    · rw [str_other h, decide_eq_false h])
  have hc : (w.alloc (.cells #[.int .i64 cl, .string on, .int .i64 bm, .int .i64 bi, .int .u32 va, .slice pa pl.length pc] 37)).cell? ⟨g, 0, none⟩ = some (.string s) := ((bel1 w (.cells #[.int .i64 cl, .string on, .int .i64 bm, .int .i64 bi, .int .u32 va, .slice pa pl.length pc] 37)).cell hl).trans hg
  have hne : ¬ g = w.heap.size := by omega
  have hne2 : ¬ w.heap.size = g := by omega
  go_enter Try.func26, Try.ntmps26
  go_wp2
  go_ret
  exact ⟨ret_bool HQ.out, bel1 _ _⟩

def WhereO {α : Type} (m : List α) (p : α → Bool) (r : Int) : Prop := (r = -1 ∧ ∀ (j : Nat) (y : α), m[j]? = some y → p y = false) ∨ ∃ (j : Nat) (y : α), r = j ∧ m[j]? = some y ∧ p y = true
set_option maxHeartbeats 2000000 in
theorem indexObj_walk (m : Sl FO) (cap : Value) (p : FO → Bool) (w : World) (hm : Rows foD w m)
    (hp : ∀ (x : FO) (W : World), x ∈ m.l → Below w.heap.size w W → Calls Try.prog 26 #[.agg (foD.cells x).toArray, cap] W fun e w' => e = .returned (.bool (p x)) ∧ Below W.heap.size W w') :
    Calls Try.prog 25 #[m.val, .func (.func 26) #[] #[cap]] w fun e w' => (∃ r : Int, e = .returned (.int .i64 r) ∧ WhereO m.l p r) ∧ Below w.heap.size w w' := by
  have hlen := hm.len
  obtain ⟨b, o, hat, hcell⟩ := hm.at'
  have HAt := Lib.hid hat
  have HC := Lib.hid hcell
  have HP := Lib.hid hp
  clear hat hcell hm hp
  obtain ⟨la, lc, m⟩ := m
  show Calls _ _ #[.slice la m.length lc, .func (.func 26) #[] #[cap]] w _
  dsimp only at HAt HC hlen HP ⊢
  go_enter Try.func25, Try.ntmps25
  go_wp2_with fail
  go_loopw [5, 8] (fun _ i wr => ∃ k : Nat, k ≤ m.length ∧ i = .int .i64 k ∧ (∀ (j : Nat) (y : FO), j < k → m[j]? = some y → p y = false) ∧ Below w.heap.size w wr) (fun _ i _ => m.length - (intOf i).toNat)
  case atStart => exact ⟨0, Nat.zero_le _, rfl, fun j y h => by omega, Below.refl _ _⟩
  case round =>
    obtain ⟨k, hk, rfl, hj, hB⟩ := hrel
    have HJ := Lib.hid hj
    have HB := Lib.hid hB
    clear hj hB
    by_cases hlt : k < m.length
    · obtain ⟨⟨cl, on, ⟨bm, bi⟩, va, ⟨pa, pc, pl⟩⟩, hy⟩ := get_lt hlt
      have HY := Lib.hid hy
      obtain ⟨rfl, hb⟩ := HAt.out (by omega)
      have HCO : Hid (∀ (q : Nat) (v : Value), ([.int .i64 cl, .string on, .int .i64 bm, .int .i64 bi, .int .u32 va, .slice pa pl.length pc] : List Value)[q]? = some v → wr.cell? ⟨b, o + k * 6 + q, none⟩ = some v) := Lib.hid (fun q v hv => (HB.out.cell (p := ⟨b, o + k * 6 + q, none⟩) hb).trans (HC.out k _ hy q v hv))
      have HQ : Hid (∀ W, Below w.heap.size w W → Calls Try.prog 26 #[.agg #[.int .i64 cl, .string on, .int .i64 bm, .int .i64 bi, .int .u32 va, .slice pa pl.length pc], cap] W fun e w' => e = .returned (.bool (p ⟨cl, on, ⟨bm, bi⟩, va, ⟨pa, pc, pl⟩⟩)) ∧ Below W.heap.size W w') := Lib.hid (fun W k => HP.out ⟨cl, on, ⟨bm, bi⟩, va, ⟨pa, pc, pl⟩⟩ W (List.mem_of_getElem? hy) k)
      have HLT := Lib.hid hlt
      clear hy hb
      have f2 : True := trivial
      have f3 : True := trivial
      cases he : p ⟨cl, on, ⟨bm, bi⟩, va, ⟨pa, pc, pl⟩⟩ with
      | true =>
        rw [he] at HQ
        have HW : Hid (WhereO m p k) := Lib.hid (.inr ⟨k, _, rfl, HY.out, he⟩)
        clear he
        go_wp2_with (first | (have _f := f2; refine wpList_load_mid rfl 37 (.tmp 14) rfl b (o + k * 6) rfl [.int .i64 cl, .string on, .int .i64 bm, .int .i64 bi, .int .u32 va, .slice pa pl.length pc] _ HCO.out Try.underlying37 rfl (by kernel_rfl) ?_; clear _f f2) | (have _f := f3; refine (HQ.out _ HB.out).mono ?_; rintro e w1 ⟨rfl, hb⟩; have HB1 := Lib.hid (bel_then HB.out hb); clear hb _f f3))
        go_ret
        exact ⟨⟨_, rfl, HW.out⟩, HB1.out⟩
      | false =>
        rw [he] at HQ
        have HE := Lib.hid he
        clear he
        go_wp2_with (first | (have _f := f2; refine wpList_load_mid rfl 37 (.tmp 14) rfl b (o + k * 6) rfl [.int .i64 cl, .string on, .int .i64 bm, .int .i64 bi, .int .u32 va, .slice pa pl.length pc] _ HCO.out Try.underlying37 rfl (by kernel_rfl) ?_; clear _f f2) | (have _f := f3; refine (HQ.out _ HB.out).mono ?_; rintro e w1 ⟨rfl, hb⟩; have HB1 := Lib.hid (bel_then HB.out hb); clear hb _f f3))
        go_roundw
        case rel =>
          refine ⟨k + 1, HLT.out, by go_num, fun j y hj hy => ?_, HB1.out⟩
          rcases Nat.lt_or_ge j k with h | h
          · exact HJ.out j y h hy
          · obtain rfl : j = k := by omega
            rw [HY.out] at hy
            obtain rfl := Option.some.inj hy
            exact HE.out
        case measure => simp [intOf]; have := HLT.out; omega
    · have HW : Hid (WhereO m p (-1)) := Lib.hid (.inl ⟨rfl, fun j y hy => HJ.out j y (by have := (List.getElem?_eq_some_iff.1 hy).1; omega) hy⟩)
      clear hk
      go_wp2
      go_ret
      exact ⟨⟨_, rfl, HW.out⟩, HB.out⟩

theorem rows_ke {w w' : World} {g : Nat} {s : Sl Prm} (h : Rows prmD w s) (k : Ke (· = g) w w') {t : TypeId} {cs : Array Value} (ha : At w g cs t) (hn : ∀ b o, s.a = some ⟨b, o, none⟩ → b ≠ g) : Rows prmD w' s := by
  refine ⟨?_, h.all⟩
  obtain ⟨⟨b, o, h1, h2⟩, h3, h4, h5⟩ := h.row
  refine ⟨⟨b, o, fun h0 => ⟨(h1 h0).1, Nat.lt_of_lt_of_le (h1 h0).2 k.size⟩, fun j u hj => ?_⟩, h3, h4, h5⟩
  have hl : 0 < (s.l.flatMap prmD.cells).length := Nat.lt_of_le_of_lt (Nat.zero_le _) (List.getElem?_eq_some_iff.1 hj).1
  obtain ⟨e1, e2⟩ := h1 hl
  have := h2 j u hj
  unfold World.cell? at this ⊢
  rw [k.block b e2 (hn b o e1)]; exact this
/-- what Find answers: the object of a name, with parameters of its own; or none. -/
def FoundF (f : Fc) (s : ByteArray) (e : Ending) (w' : World) : Prop :=
  (∃ (q : FO) (t : Sl Prm), q ∈ f.objs.l ∧ q.name = s ∧ t.l = q.params.l ∧ Rows prmD w' t ∧ e = .returned (.tuple #[.agg (foD.cells ⟨q.cls, q.name, q.base, q.value, t⟩).toArray, .bool true])) ∨
  ((∀ q ∈ f.objs.l, q.name ≠ s) ∧ e = .returned (.tuple #[.agg #[.int .i64 0, .string ⟨#[]⟩, .int .i64 0, .int .i64 0, .int .u32 0, .slice none 0 0], .bool false]))

set_option maxRecDepth 100000 in
set_option maxHeartbeats 4000000 in
theorem find_walk (f : Fc) (s : ByteArray) (w : World) (h : f.Rd w) (hl : ∀ q ∈ f.objs.l, q.params.l.length ≤ 1000000) :
    Calls Try.prog 11 #[f.val, .string s] w fun e w' => FoundF f s e w' ∧ Below w.heap.size w w' := by
  have HH := Lib.hid h
  have HL := Lib.hid hl
  obtain ⟨b, o, hat, hcl⟩ := h.objs.at'
  have hle := h.objs.row.le
  have hlen := h.objs.len
  have HAT := Lib.hid hat
  have HCL := Lib.hid hcl
  have HOK := Lib.hid h.objs.all
  obtain ⟨F, hF⟩ : ∃ F, F = FoundF f s := ⟨_, rfl⟩
  have HFO : Hid (∀ e w', F e w' ↔ FoundF f s e w') := Lib.hid (by rw [hF]; exact fun _ _ => Iff.rfl)
  rw [← hF]
  have HIX : Hid (∀ W g, Below w.heap.size w W → At W g #[.string s] 9 → Calls Try.prog 25 #[f.objs.val, .func (.func 26) #[] #[.pointer (some ⟨g, 0, none⟩)]] W fun e w' => (∃ r : Int, e = .returned (.int .i64 r) ∧ WhereO f.objs.l (fun q => decide (q.name = s)) r) ∧ Below W.heap.size W w') := Lib.hid (fun W g k hg => indexObj_walk f.objs _ _ W (h.objs.bel k) (fun x V _ kk => objNamed_walk x g s V (((hg.bel kk).cell 0).trans rfl) (hg.bel kk).lt))
  clear h hl hat hcl hF
  obtain ⟨nm, ⟨a1, c1, l1⟩, ⟨a2, c2, l2⟩, ⟨a3, c3, l3⟩⟩ := f
  dsimp only at HL HAT HCL HOK hle hlen
  replace HIX : Hid (∀ W g, Below w.heap.size w W → At W g #[.string s] 9 → Calls Try.prog 25 #[.slice a3 l3.length c3, .func (.func 26) #[] #[.pointer (some ⟨g, 0, none⟩)]] W fun e w' => (∃ r : Int, e = .returned (.int .i64 r) ∧ WhereO l3 (fun q => decide (q.name = s)) r) ∧ Below W.heap.size W w') := HIX
  show Calls _ _ #[.agg #[.string nm, .slice a1 l1.length c1, .slice a2 l2.length c2, .slice a3 l3.length c3], .string s] w _
  have HB0 := Lib.hid (bel3 w (.cells #[.string nm, .slice a1 l1.length c1, .slice a2 l2.length c2, .slice a3 l3.length c3] 26) (.cells #[.string s] 9) (.cells #[.int .i64 0, .string ⟨#[]⟩, .int .i64 0, .int .i64 0, .int .u32 0, .slice none 0 0] 37))
  have hSP := (Sep.nil w).alloc3 #[.string nm, .slice a1 l1.length c1, .slice a2 l2.length c2, .slice a3 l3.length c3] #[.string s] #[.int .i64 0, .string ⟨#[]⟩, .int .i64 0, .int .i64 0, .int .u32 0, .slice none 0 0] 26 9 37
  have HGF := Lib.hid (hSP.at 2 rfl)
  have HGN := Lib.hid (hSP.at 1 rfl)
  have HGO := Lib.hid (hSP.at 0 rfl)
  clear hSP
  have HLE := Lib.hid hle
  clear hle
  go_enter Try.func11, Try.ntmps11
  go_wp2_with (fail)
  refine (HIX.out _ _ HB0.out HGN.out).mono ?_
  rintro e w1 ⟨⟨r, rfl, hr⟩, hb⟩
  have HB1 := Lib.hid (bel_then HB0.out hb)
  have HGF1 := Lib.hid (HGF.out.bel hb)
  have HGN1 := Lib.hid (HGN.out.bel hb)
  have HGO1 := Lib.hid (HGO.out.bel hb)
  have c3f := (HGF1.out.cell 3).trans (show _ = some (.slice a3 l3.length c3) from rfl)
  clear hb
  rcases hr with ⟨rfl, hno⟩ | ⟨k, ⟨cl, on, ⟨bm, bi⟩, va, ⟨pa, pc, pl⟩⟩, rfl, hk, hpk⟩
  · have HNO : Hid (∀ q ∈ l3, q.name ≠ s) := Lib.hid (fun q hq => by obtain ⟨j, hj⟩ := List.mem_iff_getElem?.1 hq; exact of_decide_eq_false (hno j q hj))
    clear hno
    have fl1 : True := trivial
    go_wp2_with (first | (have _f := fl1; refine store_sep (cells := #[.int .i64 0, .string ⟨#[]⟩, .int .i64 0, .int .i64 0, .int .u32 0, .slice none 0 0]) rfl 37 (.tmp 4) (.tmp 14) rfl (Sep.one HGO1.out) 0 rfl rfl rfl (by kernel_rfl) rfl rfl ?_; intro w9 S' k' s'; have HGZ := Lib.hid (S'.at 0 rfl); have HBZ : Hid (Below w.heap.size w w9) := Lib.hid (bel_keF HB1.out k' (fun i e => by subst e; omega)); clear S' k' s'; clear _f fl1))
    refine bodyPost_ret (res_cell_tmp rfl rfl HGZ.out Try.underlying37 rfl (by kernel_rfl)) rfl ⟨(HFO.out _ _).2 (.inr ⟨HNO.out, rfl⟩), HBZ.out⟩
  have hkl := (List.getElem?_eq_some_iff.1 hk).1
  have HNM : Hid (on = s) := Lib.hid (of_decide_eq_true hpk)
  obtain ⟨rfl, hb⟩ := HAT.out (by omega)
  have HCO : Hid (∀ (q : Nat) (v : Value), ([.int .i64 cl, .string on, .int .i64 bm, .int .i64 bi, .int .u32 va, .slice pa pl.length pc] : List Value)[q]? = some v → w1.cell? ⟨b, o + k * 6 + q, none⟩ = some v) := Lib.hid (fun q v hv => (HB1.out.cell (p := ⟨b, o + k * 6 + q, none⟩) hb).trans (HCL.out k _ hk q v hv))
  have HME := Lib.hid (List.mem_of_getElem? hk)
  have HPR : Hid (Rows prmD w ⟨pa, pc, pl⟩) := Lib.hid (HOK.out _ (List.mem_of_getElem? hk)).2.2.2.2
  have HPL : Hid (pl.length ≤ 1000000) := Lib.hid (HL.out _ (List.mem_of_getElem? hk))
  have kl : (k : Int) < l3.length := by omega
  have kc : (k : Int) < c3 := by have := HLE.out; omega
  have k0 : ¬ (k : Int) < 0 := by omega
  have k00 : decide ((k : Int) < 0) = false := decide_eq_false k0
  clear hk hpk hb hkl
  have HSN := Lib.hid (fun w' : World => Sep.nil w')
  have fl2 : True := trivial
  have fl3 : True := trivial
  have fl4 : True := trivial
  have fl5 : True := trivial
  have fl6 : True := trivial
  have fl7 : True := trivial
  have fl8 : True := trivial
  go_wp2_with (first | (have _f := fl2; refine wpList_load_mid rfl 37 (.tmp 18) rfl b (o + k * 6) rfl [.int .i64 cl, .string on, .int .i64 bm, .int .i64 bi, .int .u32 va, .slice pa pl.length pc] _ HCO.out Try.underlying37 rfl (by kernel_rfl) ?_; clear _f fl2) | (have _f := fl3; refine alloc_sep rfl 37 rfl (HSN.out _) (z := .agg #[.int .i64 0, .string ⟨#[]⟩, .int .i64 0, .int .i64 0, .int .u32 0, .slice none 0 0]) (cs := #[.int .i64 0, .string ⟨#[]⟩, .int .i64 0, .int .i64 0, .int .u32 0, .slice none 0 0]) (by kernel_rfl) rfl ?_; intro wc S' b' s'; have HSc := Lib.hid S'; have HBc := Lib.hid b'; clear S' b' s'; clear _f fl3) | (have _f := fl4; refine store_sep (cells := #[.int .i64 cl, .string on, .int .i64 bm, .int .i64 bi, .int .u32 va, .slice pa pl.length pc]) rfl 37 (.tmp 7) (.tmp 19) rfl HSc.out 0 rfl rfl rfl (by kernel_rfl) rfl rfl ?_; intro we S' k' s'; have HGe := Lib.hid (S'.at 0 rfl); have HBe : Hid (Below w1.heap.size w1 we) := Lib.hid (((Ke.below (· = w1.heap.size) HBc.out).trans k').toBelow (fun i hi e => absurd e (Nat.ne_of_lt hi))); have HBWe := Lib.hid (bel_then HB1.out HBe.out); have HOe := Lib.hid (HGO1.out.bel HBe.out); have y5 := (HGe.out.cell 5).trans (show _ = some (.slice pa pl.length pc) from rfl); clear S' k' s'; clear _f fl4) | (have _f := fl5; refine (clonePrm_walk ⟨pa, pc, pl⟩ _ (HPR.out.bel HBWe.out) HPL.out).mono ?_; rintro e w3 ⟨⟨ta, tc, tl⟩, rfl, ht, hrt, hfr, hb⟩; dsimp only at ht hfr; subst ht; have HRT := Lib.hid hrt; have HFR := Lib.hid hfr; clear hfr; have HBx := Lib.hid (bel_then HBWe.out hb); have HGx := Lib.hid (HGe.out.bel hb); have HOx := Lib.hid (HOe.out.bel hb); have HWx := Lib.hid (bel_then HBe.out hb); clear hrt hb y5; clear _f fl5) | (have _f := fl6; refine store1_sep rfl 35 (.tmp 23) (.tmp 22) rfl (Sep.one HGx.out) 0 (j := 5) (old := #[.int .i64 cl, .string on, .int .i64 bm, .int .i64 bi, .int .u32 va, .slice pa tl.length pc]) (v := .slice ta tl.length tc) rfl rfl rfl rfl (by kernel_rfl) rfl ?_; intro w4 S' k' s'; have HGy : Hid (At w4 w1.heap.size #[.int .i64 cl, .string on, .int .i64 bm, .int .i64 bi, .int .u32 va, .slice ta tl.length tc] 37) := Lib.hid (S'.at 0 rfl); have HK4 := Lib.hid k'; have HOy := Lib.hid (HOx.out.ke k' (Nat.ne_of_lt (Nat.lt_of_lt_of_le HGO1.out.lt (Nat.le_refl _)))); have HRy := Lib.hid (rows_ke HRT.out k' HGx.out (fun b o e => Nat.ne_of_gt (Nat.lt_of_lt_of_le HGe.out.lt (HFR.out b o e)))); clear S' k' s'; clear _f fl6) | (have _f := fl7; refine load_sep (cs := #[.int .i64 cl, .string on, .int .i64 bm, .int .i64 bi, .int .u32 va, .slice ta tl.length tc]) rfl 37 (.tmp 7) rfl (Sep.one HGy.out) 0 rfl rfl Try.underlying37 rfl (by kernel_rfl) ?_; clear _f fl7) | (have _f := fl8; refine store_sep (cells := #[.int .i64 cl, .string on, .int .i64 bm, .int .i64 bi, .int .u32 va, .slice ta tl.length tc]) rfl 37 (.tmp 4) (.tmp 24) rfl (Sep.one HOy.out) 0 rfl rfl rfl (by kernel_rfl) rfl rfl ?_; intro w5 S' k' s'; have HGZ := Lib.hid (S'.at 0 rfl); have HK5 := Lib.hid k'; clear S' k' s'; clear _f fl8))
  have HBZ : Hid (Below w.heap.size w w5) := Lib.hid (bel_keF (bel_keF HBx.out HK4.out (fun i e => by subst e; exact HB1.out.size)) HK5.out (fun i e => by subst e; omega))
  refine bodyPost_ret (res_cell_tmp rfl rfl HGZ.out Try.underlying37 rfl (by kernel_rfl)) rfl ⟨(HFO.out _ _).2 (.inl ⟨_, ⟨ta, tc, tl⟩, HME.out, HNM.out, rfl, rows_ke HRy.out HK5.out HOy.out (fun b o e => Nat.ne_of_gt (Nat.lt_of_lt_of_le HOe.out.lt (HFR.out b o e))), rfl⟩), HBZ.out⟩
end Go.Proofs.Ytgcjdkgeiopllaa
