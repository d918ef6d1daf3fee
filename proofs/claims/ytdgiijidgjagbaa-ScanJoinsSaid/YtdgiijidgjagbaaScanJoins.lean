/- The statement ScanJoins, walked. Printed by bin/gen_joins.py. -/
import Derived.Test.YtdgiijidgjagbaaScanRes
import Derived.Test.YtdgiijidgjagbaaRefScan
import Derived.IntWalk
namespace Go.Proofs.Ytdgiijidgjagbaa
set_option linter.unusedVariables false
set_option linter.unusedSimpArgs false
open Go.RowKit

variable {F : Nat → Prop} {w w' : World} {g : Nat} {s : Sc}
theorem ownsRow_nil5 {w : World} {B : Nat} {e : TypeId} {size : Nat} : w.ownsRow B e size (.slice none 0 0) 0 [] := ⟨by simp, .inl ⟨rfl, rfl⟩⟩
theorem name_is (H : Scn F w g s) (id : Int) (x : ByteArray) (hx : nameV (s.nameOf id) = .string x) :
    Calls Try.prog 19 #[.pointer (some ⟨g, 0, none⟩), .int .i64 id] w fun e w' => e = .returned (.string x) ∧ w = w' := by
  obtain ⟨a, c, n, m, h⟩ := H
  rw [← hx]
  exact nameof_walk h id
theorem et_u8' : ET Try.prog 23 5 (.int .u8 0) 1 1 := ET.of Try.underlying23 (by kernel_rfl) (by decide) (by decide)

/-- a scanner, all that was before it left alone. -/
structure JnW (W0 : World) (F : Nat → Prop) (wr : World) (g : Nat) (s : Sc) : Prop where
  scn : Scn F wr g s
  low : ∀ k, k < W0.heap.size → F k
  lt : ∀ k, F k → k < wr.heap.size
  bel : Below W0.heap.size W0 wr
variable {W0 wr wz : World}
theorem JnW.on (h : JnW W0 F wr g s) (k : Below wr.heap.size wr wz) : JnW W0 F wz g s := ⟨h.scn.bel k, h.low, fun i hi => Nat.lt_of_lt_of_le (h.lt i hi) k.size, bel_then h.bel k⟩
theorem JnW.got (h : JnW W0 F wr g s) {s' : Sc} (hs : Scn F wz g s') (k : Ke (Off F) wr wz) : JnW W0 F wz g s' := ⟨hs, h.low, fun i hi => Nat.lt_of_lt_of_le (h.lt i hi) k.size, bel_off2 h.bel k h.low⟩
theorem JnW.more (h : JnW W0 F wr g s) (k : Below wr.heap.size wr wz) : JnW W0 (fun i => F i ∨ (wr.heap.size ≤ i ∧ i < wz.heap.size)) wz g s :=
  ⟨h.scn.more k, fun i hi => .inl (h.low i hi), fun i hi => by rcases hi with hi | hi; exact Nat.lt_of_lt_of_le (h.lt i hi) k.size; exact hi.2, bel_then h.bel k⟩

/-- what a reference's result is, when there is no error. -/
theorem res_none {S : List Int} {m : Nat} {E P : Int} {nms : List (List UInt8)} (h : ResIs S m E P nms) (h0 : E = 0) : ∃ k, m = k + 1 ∧ Syms S k ∧ nms = (gets (newS S) k).names := by
  rcases h with ⟨_, _, h⟩ | ⟨h, _⟩
  · exact h
  · exact (h h0).elim
theorem syms_pos {S : List Int} {k : Nat} (h : Syms S k) {i : Nat} (hi : i ≤ k) : ∃ j : Nat, (gets (newS S) i).sym.pos = j ∧ j ≤ S.length := by
  rcases Nat.lt_or_ge i k with hk | hk
  · obtain ⟨j, _, _, h3, h4, _⟩ := h.next hk
    have := (h.fine (i + 1) hk).le
    exact ⟨j, h4, by omega⟩
  · obtain rfl : i = k := by omega
    exact ⟨S.length, by rw [h.last.2]; rfl, Nat.le_refl _⟩
theorem syms_names {S : List Int} {k : Nat} (h : Syms S k) : 0 < (gets (newS S) k).names.length := by
  rw [h.last.2]
  obtain ⟨r, hr⟩ := (h.fine k (Nat.le_refl _)).kw
  show 0 < (gets (Sc.fresh S) k).names.length
  rw [hr, List.length_append]
  have : kwB.length = 29 := rfl
  omega
/-- behind the last one. -/
theorem joins_err {a b : List Int} {m k : Nat} (ha : Syms a m) (hb : Syms b k) {T : List Int}
    (h1 : ∀ i, i < m → (gets (newS T) i).sym = (gets (newS a) i).sym)
    (h2 : ∀ i, i ≤ k → (gets (newS T) (m + i)).sym.sym = (gets (newS b) i).sym.sym) (h3 : (gets (newS T) (m + k)).err = 0) : (gets (newS T) (m + (k + 1))).err = 0 ∧ (gets (newS T) (m + (k + 1))).pos = 0 := by
  have hs : Syms T (m + k) := ⟨fun i hi => by
    rcases Nat.lt_or_ge i m with h | h
    · rw [h1 i h]; exact ha.ne i h
    · have := h2 (i - m) (by omega)
      rw [show m + (i - m) = i by omega] at this
      rw [this]; exact hb.ne _ (by omega), by rw [h2 k (Nat.le_refl _)]; exact hb.fin, h3⟩
  have := res_facts (S := T) (m := m + k + 1) (E := 0) (P := 0) (nms := (gets (newS T) (m + k)).names) (.inl ⟨rfl, rfl, m + k, rfl, hs, rfl⟩)
  exact ⟨this.2.1, this.2.2.1⟩
theorem mark_nm (s : Sc) (c p : Int) : (s.markAt c p).names = s.names := by unfold Sc.markAt; split <;> rfl
theorem intern_nm {s : Sc} (h : s.names.length ≤ 700) (n : List UInt8) : (s.intern n).2.names.length ≤ 700 := by
  unfold Sc.intern
  split
  · exact h
  · split
    · unfold Sc.mark; rw [mark_nm]; exact h
    · show (s.names ++ [n]).length ≤ 700
      rw [List.length_append, List.length_singleton]; omega
theorem number_nm (s : Sc) : s.number.names = s.names := by
  unfold Sc.number Sc.mark
  simp only
  split
  · split
    · rw [mark_nm]
    · rfl
  · split
    · rw [mark_nm]
    · rfl
theorem text_nm (s : Sc) : s.text.names = s.names := by
  unfold Sc.text Sc.mark
  simp only
  split
  · rw [mark_nm]
  · rfl
theorem sign_nm (s : Sc) : s.sign.names = s.names := by
  unfold Sc.sign Sc.mark
  simp only
  split
  · split <;> rfl
  · split
    · rfl
    · split
      · rfl
      · split
        · rfl
        · rw [mark_nm]
theorem name_nm {s : Sc} (h : s.names.length ≤ 700) : s.name.names.length ≤ 700 := by
  unfold Sc.name
  simp only
  split
  · unfold Sc.mark; rw [mark_nm]; exact h
  · split
    · refine intern_nm ?_ _; exact h
    · split
      · show (Sc.intern _ _).2.names.length ≤ 700
        refine intern_nm ?_ _; exact h
      · show (Sc.intern _ _).2.names.length ≤ 700
        refine intern_nm ?_ _; exact h
theorem get_nm {s : Sc} (h : s.names.length ≤ 700) : s.get.names.length ≤ 700 := by
  unfold Sc.get
  split
  · exact h
  · simp only
    split
    · rw [mark_nm]; exact h
    · split
      · exact h
      · split
        · refine name_nm ?_; exact h
        · split
          · rw [number_nm]; exact h
          · split
            · rw [text_nm]; exact h
            · rw [sign_nm]; exact h
theorem gets_nm {s : Sc} (h : s.names.length ≤ 700) : ∀ n, (gets s n).names.length ≤ 700
  | 0 => h
  | n + 1 => get_nm (gets_nm h n)
theorem res_nm {S : List Int} {m : Nat} {E P : Int} {nms : List (List UInt8)} (h : ResIs S m E P nms) : nms.length ≤ 700 := by
  have h0 : (newS S).names.length ≤ 700 := get_nm (show (57 : Nat) ≤ 700 by decide)
  rcases h with ⟨_, _, k, _, _, rfl⟩ | ⟨_, _, _, _, rfl⟩
  · exact gets_nm h0 k
  · exact gets_nm h0 m
theorem joins_case (E1 E2 : Int) (n1 n2 : Nat) : (E1 != 0) = true ∨ (E1 = 0 ∧ (E2 != 0) = true) ∨ (E1 = 0 ∧ E2 = 0 ∧ (700 : Int) < n1 + n2) ∨ (E1 = 0 ∧ E2 = 0 ∧ ¬ (700 : Int) < n1 + n2) := by
  by_cases h1 : E1 = 0
  · by_cases h2 : E2 = 0
    · by_cases h3 : (700 : Int) < n1 + n2
      · exact .inr (.inr (.inl ⟨h1, h2, h3⟩))
      · exact .inr (.inr (.inr ⟨h1, h2, h3⟩))
    · exact .inr (.inl ⟨h1, by simpa using h2⟩)
  · exact .inl (by simpa using h1)
theorem five_lt {α : Type} {q : Nat} {a b c d e y : α} (h : ([a, b, c, d, e] : List α)[q]? = some y) : q < 5 := by
  rcases Nat.lt_or_ge q 5 with h' | h'
  · exact h'
  · rw [List.getElem?_eq_none (by simpa using h')] at h; cases h
/-- a row of symbols, as it is read wherever its blocks are left alone. -/
theorem row_syms {w : World} {base : Nat} {a : Option Addr} {c : Nat} {S : List Int} {m : Nat} (h : w.ownsRow base 30 5 (.slice a m c) m (symsC ((List.range m).map fun j => (gets (newS S) j).sym))) (h0 : 0 < m) : ∃ b, a = some ⟨b, 0, none⟩ ∧ b < w.heap.size ∧
    ∀ j v p u i (t : List UInt8) (tb : ByteArray), j < m → (gets (newS S) j).sym = ⟨v, p, u, i, t⟩ → (⟨t.toArray⟩ : ByteArray) = tb → ∀ (q : Nat) (y : Value), ([.int .i64 v, .int .i64 p, .int .i32 u, .int .i64 i, .string tb] : List Value)[q]? = some y → w.cell? ⟨b, j * 5 + q, none⟩ = some y := by
  obtain ⟨b, h1, h2, h3, h4⟩ := row_cells h (by rw [symsC_len, List.length_map, List.length_range]; omega)
  refine ⟨b, h1, h3, fun j v p u i t tb hj hs ht q y hy => h4 _ _ ?_⟩
  rw [symsC_at _ m j hj q (five_lt hy), hs]
  unfold symC nameV
  rw [ht]
  exact hy

set_option maxRecDepth 100000 in
set_option maxHeartbeats 16000000 in
theorem joins_law (a0 : Option Addr) (c0 : Nat) (la : List Int) (b0 : Option Addr) (c1 : Nat) (lb : List Int) (w : World) (hra : RdI .u8 w a0 c0 la) (hrb : RdI .u8 w b0 c1 lb) :
    Calls Try.prog 6 #[.slice a0 la.length c0, .slice b0 lb.length c1] w fun e w' => e = .returned (.bool true) ∧ Below w.heap.size w w' := by
  have hlena := hra.len
  have hlenb := hrb.len
  have HRA := Lib.hid hra
  have HRB := Lib.hid hrb
  have i0 : (la.length : Int) ≤ 9223372036854775807 := by omega
  have i1 : (lb.length : Int) ≤ 9223372036854775807 := by omega
  clear hra hrb hlena hlenb
  by_cases ha : 1000 < la.length
  · have ha' : (1000 : Int) < la.length := by omega
    clear ha
    go_enter Try.func6, Try.ntmps6
    go_wp2_with (refine (known_walk _).mono ?_; rintro e w13 ⟨rfl, hb⟩; have B13 := Lib.hid hb; clear hb)
    go_ret
    exact ⟨rfl, B13.out⟩
  have ha' : ¬ (1000 : Int) < la.length := by omega
  by_cases hb : 1000 < lb.length
  · have hb' : (1000 : Int) < lb.length := by omega
    clear ha hb
    go_enter Try.func6, Try.ntmps6
    go_wp2_with (refine (known_walk _).mono ?_; rintro e w13 ⟨rfl, hb⟩; have B13 := Lib.hid hb; clear hb)
    go_ret
    exact ⟨rfl, B13.out⟩
  have hb' : ¬ (1000 : Int) < lb.length := by omega
  have HLA := Lib.hid (show la.length ≤ 1000 by omega)
  have HLB := Lib.hid (show lb.length ≤ 1000 by omega)
  have HSN := Lib.hid (fun w' : World => Sep.nil w')
  obtain ⟨T, hT⟩ : ∃ T, la ++ 32 :: lb = T := ⟨_, rfl⟩
  have HT := Lib.hid hT
  have HTL : Hid (T.length ≤ 65535) := Lib.hid (by have h1 := HLA.out; have h2 := HLB.out; rw [← hT, List.length_append, List.length_cons]; omega)
  have HTE : Hid (la.map (Value.int .u8) ++ [.int .u8 32] ++ lb.map (Value.int .u8) = T.map (Value.int .u8)) := Lib.hid (by rw [← hT]; simp)
  have HTN : Hid (la.length + 1 + lb.length = T.length) := Lib.hid (by rw [← hT, List.length_append, List.length_cons]; omega)
  have HTB : Hid (∀ x ∈ T, IntKind.min .u8 ≤ x ∧ x ≤ IntKind.max .u8) := Lib.hid (by
    intro x hx
    rw [← hT, List.mem_append, List.mem_cons] at hx
    rcases hx with hx | rfl | hx
    · exact HRA.out.bd x hx
    · decide
    · exact HRB.out.bd x hx)
  have HO1 := Lib.hid (ints_one .u8 la)
  have HO2 := Lib.hid (ints_one .u8 lb)
  have HBA : Hid (0 + la.length ≤ 140737488355328) := Lib.hid (by have := HLA.out; omega)
  have HBB : Hid (0 + la.length + 1 ≤ 140737488355328) := Lib.hid (by have := HLA.out; omega)
  have HBC : Hid (0 + la.length + 1 + lb.length ≤ 140737488355328) := Lib.hid (by have := HLA.out; have := HLB.out; omega)
  clear ha hb hT
  have f1 : True := trivial
  have f2 : True := trivial
  have f3 : True := trivial
  have f4 : True := trivial
  have f5 : True := trivial
  have f6 : True := trivial
  have f7 : True := trivial
  have f8 : True := trivial
  have f9 : True := trivial
  have f10 : True := trivial
  have f11 : True := trivial
  go_enter Try.func6, Try.ntmps6
  go_wp2_with (first | (have _f := f1; refine (scan_ref HRA.out (by have := HLA.out; omega)).mono ?_; rintro e w1 ⟨A1, N1, m1, E1, P1, nm1, rfl, hb, ha, hn, hcs⟩; have HB1 := Lib.hid hb; have HA1 := Lib.hid ha; have HN1 := Lib.hid hn; have HR1 := Lib.hid (show ResIs la m1 E1 P1 nm1 from hcs); obtain ⟨ap1, ac1, rfl, _⟩ := RdC.own ha; obtain ⟨np1, nc1, rfl, _⟩ := RdC.own hn; have mm0 : (0 : Int) ≤ m1 := (by omega); have mm1 : (m1 : Int) ≤ 9223372036854775807 := (by have := own_le ha; omega); have nl0 : (0 : Int) ≤ nm1.length := (by omega); have nl1 : (nm1.length : Int) ≤ 700 := (by have := res_nm hcs; omega); clear hb ha hn hcs; clear _f f1) | (have _f := f2; refine (scan_ref (HRB.out.below HB1.out (Nat.le_refl _)) (by have := HLB.out; omega)).mono ?_; rintro e w2 ⟨A2, N2, m2, E2, P2, nm2, rfl, hb, ha, hn, hcs⟩; have HB2 := Lib.hid hb; have HA2 := Lib.hid ha; have HN2 := Lib.hid hn; have HR2 := Lib.hid (show ResIs lb m2 E2 P2 nm2 from hcs); obtain ⟨ap2, ac2, rfl, _⟩ := RdC.own ha; obtain ⟨np2, nc2, rfl, _⟩ := RdC.own hn; have mm2 : (0 : Int) ≤ m2 := (by omega); have mm3 : (m2 : Int) ≤ 9223372036854775807 := (by have := own_le ha; omega); have nl2 : (0 : Int) ≤ nm2.length := (by omega); have nl3 : (nm2.length : Int) ≤ 700 := (by have := res_nm hcs; omega); clear hb ha hn hcs; clear _f f2) | (have _f := f3; refine alloc_sep rfl 42 rfl (HSN.out _) (z := .agg #[.slice none 0 0, .slice none 0 0, .int .i64 0, .int .i64 0]) (cs := #[.slice none 0 0, .slice none 0 0, .int .i64 0, .int .i64 0]) (by kernel_rfl) rfl ?_; intro w3 S' b' s'; have HS3 := Lib.hid S'; have HB3 := Lib.hid b'; clear S' b' s'; clear _f f3) | (have _f := f4; refine alloc_sep rfl 42 rfl HS3.out (z := .agg #[.slice none 0 0, .slice none 0 0, .int .i64 0, .int .i64 0]) (cs := #[.slice none 0 0, .slice none 0 0, .int .i64 0, .int .i64 0]) (by kernel_rfl) rfl ?_; intro w4 S' b' s'; have HS4 := Lib.hid S'; have HB4 := Lib.hid (bel_then HB3.out b'); clear S' b' s'; clear _f f4) | (have _f := f5; refine store_sep (cells := #[.slice ap1 m1 ac1, .slice np1 nm1.length nc1, .int .i64 E1, .int .i64 P1]) rfl 42 (.tmp 5) (.tmp 24) rfl HS4.out 1 rfl rfl rfl (by kernel_rfl) rfl rfl ?_; intro w5 S' k' s'; have HS5 := Lib.hid S'; have HB5 := Lib.hid (set_bel HB4.out (Nat.le_refl _) k'); clear S' k' s'; clear _f f5) | (have _f := f6; refine store_sep (cells := #[.slice ap2 m2 ac2, .slice np2 nm2.length nc2, .int .i64 E2, .int .i64 P2]) rfl 42 (.tmp 6) (.tmp 26) rfl HS5.out 0 rfl rfl rfl (by kernel_rfl) rfl rfl ?_; intro w6 S' k' s'; have HS6 := Lib.hid S'; have HB6 := Lib.hid (set_bel HB5.out HB3.out.size k'); have HW6 := Lib.hid (bel_then HB1.out (bel_then HB2.out HB6.out)); have d2 : w6.cell? ⟨w2.heap.size, 2, none⟩ = some (.int .i64 E1) := ((S'.at 1 rfl).cell 2).trans rfl; have d3 : w6.cell? ⟨w3.heap.size, 2, none⟩ = some (.int .i64 E2) := ((S'.at 0 rfl).cell 2).trans rfl; have d4 : w6.cell? ⟨w2.heap.size, 1, none⟩ = some (.slice np1 nm1.length nc1) := ((S'.at 1 rfl).cell 1).trans rfl; have d5 : w6.cell? ⟨w3.heap.size, 1, none⟩ = some (.slice np2 nm2.length nc2) := ((S'.at 0 rfl).cell 1).trans rfl; clear S' k' s' _f f6; rcases joins_case E1 E2 nm1.length nm2.length with he | ⟨rfl, he⟩ | ⟨rfl, rfl, he⟩ | ⟨rfl, rfl, he⟩ <;> have HC7 := Lib.hid he) | (have _f := f7; (with_reducible refine (known_walk _).mono ?_); rintro e w13 ⟨rfl, hb⟩; have B13 := Lib.hid (bel_then HW6.out hb); clear hb he; clear _f f7) | (have _f := f8; at_builtin; refine append_at rfl (.const (.slice none 0 0)) (.tmp 46) et_u8' rfl w6.heap.size rfl ownsRow_nil5 rfl (HRA.out.below HW6.out (Nat.le_refl _)).row (by simp) HO1.out (by rw [Nat.mul_one]; exact HBA.out) HBA.out (Nat.le_refl _) ?_; intro v7 w7 own7 gr7 _; have HB7 : Hid (Below w6.heap.size w6 w7) := Lib.hid ((Ke.ofGrown gr7).toBelow (fun i _ e => by cases e)); have HB8 := Lib.hid (bel_then HB7.out (bel1 w7 (.cells #[.int .u8 32] 5))); have HO8 := Lib.hid (own7.alloc (.cells #[.int .u8 32] 5)); have HR8 := Lib.hid (rd_five w7 #[.int .u8 32] 5); clear own7 gr7 d2 d3 d4 d5; clear _f f8) | (have _f := f9; at_builtin; refine append_at rfl (.tmp 47) (.tmp 48) et_u8' rfl w6.heap.size rfl HO8.out rfl HR8.out rfl (by intro u hu; simp at hu; subst hu; rfl) (by rw [Nat.mul_one]; exact HBB.out) HBB.out HB8.out.size ?_; intro v9 w9 own9 gr9 _; have HB9 : Hid (Below w6.heap.size w6 w9) := Lib.hid (grow_bel HB8.out HO8.out gr9); have HO9 := Lib.hid own9; clear own9 gr9; clear _f f9) | (have _f := f10; at_builtin; refine append_at rfl (.tmp 49) (.tmp 50) et_u8' rfl w6.heap.size rfl HO9.out rfl (HRB.out.below (bel_then HW6.out HB9.out) (Nat.le_refl _)).row (by simp) HO2.out (by rw [Nat.mul_one]; exact HBC.out) HBC.out HB9.out.size ?_; intro v10 wT own10 gr10 _; have HBT : Hid (Below w6.heap.size w6 wT) := Lib.hid (grow_bel HB9.out HO9.out gr10); have HOT : Hid (wT.ownsRow w6.heap.size 5 1 v10 T.length (T.map (Value.int .u8))) := Lib.hid (by rw [Nat.zero_add, List.nil_append, HTN.out] at own10; rw [← HTE.out]; exact own10); obtain ⟨ap3, ac3, rfl, hrt⟩ := RdI.own HOT.out HTB.out; have HRT := Lib.hid hrt; clear own10 gr10 hrt; clear _f f10) | (have _f := f11; refine (new_walk HRT.out HTL.out).mono ?_; rintro e wn ⟨g, rfl, hs, hb⟩; have HJ0 : Hid (JnW wT (· < wT.heap.size) wn g (gets (newS T) 0)) := Lib.hid ⟨hs, fun _ h => h, fun i hi => Nat.lt_of_lt_of_le hi hb.size, hb⟩; clear hs hb; clear _f f11))
  · go_ret
    exact ⟨rfl, B13.out⟩
  · go_ret
    exact ⟨rfl, B13.out⟩
  · go_ret
    exact ⟨rfl, B13.out⟩
  obtain ⟨k1, hk1, hs1, hnm1⟩ := res_none HR1.out rfl
  obtain ⟨k2, hk2, hs2, hnm2⟩ := res_none HR2.out rfl
  obtain ⟨r5, hr5⟩ : ∃ r, r = w2.heap.size := ⟨_, rfl⟩
  obtain ⟨r6, hr6⟩ : ∃ r, r = w3.heap.size := ⟨_, rfl⟩
  rw [← hr5, ← hr6] at HS6 ⊢
  have HK1 := Lib.hid hk1
  have HK2 := Lib.hid hk2
  have HY1 := Lib.hid hs1
  have HY2 := Lib.hid hs2
  have HJP := Lib.hid (joins_plain hs1 hs2 (by rw [← hnm1, ← hnm2]; have := HC7.out; omega) HT.out.symm)
  have HNM2 := Lib.hid hnm2
  have HN20 : Hid (0 < nm2.length) := Lib.hid (by rw [hnm2]; exact syms_names hs2)
  have HM1 : Hid (0 < m1) := Lib.hid (by omega)
  have HM2 : Hid (0 < m2) := Lib.hid (by omega)
  clear hk1 hk2 hs1 hs2 hnm1 hnm2 hr5 hr6 HS3 HS4 HS5 HB3 HB4 HB5
  have HWT := Lib.hid (bel_then HW6.out HBT.out)
  have HA1T := Lib.hid (ownsRow_ke HA1.out (Ke.below Non (bel_then HB2.out (bel_then HB6.out HBT.out))) (fun _ _ h => h))
  have HA2T := Lib.hid (ownsRow_ke HA2.out (Ke.below Non (bel_then HB6.out HBT.out)) (fun _ _ h => h))
  have HN2T := Lib.hid (ownsRow_ke HN2.out (Ke.below Non (bel_then HB6.out HBT.out)) (fun _ _ h => h))
  have HS6T := Lib.hid (HS6.out.bel HBT.out)
  clear HA1 HA2 HN2 HN1 HS6 HB1 HB2 HB6 HW6 HBT HB7 HB8 HB9 HO8 HO9 HR8 HRT HOT HR1 HR2 HRA HRB HTE HTN HTB HO1 HO2 HBA HBB HBC
  obtain ⟨ab1, rfl, hb1, hc1⟩ := row_syms HA1T.out HM1.out
  have HB1 := Lib.hid hb1
  have HC1 := Lib.hid hc1
  obtain ⟨ab2, rfl, hb2, hc2⟩ := row_syms HA2T.out HM2.out
  have HB2 := Lib.hid hb2
  have HC2 := Lib.hid hc2
  obtain ⟨bn, rfl, _, hbn, hcn⟩ := row_cells HN2T.out (by rw [List.length_map]; exact HN20.out)
  have HBN := Lib.hid hbn
  have HCN : Hid (∀ n, n < nm2.length → wT.cell? ⟨bn, n, none⟩ = some (nameV (nm2.getD n []))) := Lib.hid (fun n hn => hcn n _ (by rw [List.getElem?_map, List.getElem?_eq_getElem hn, List.getD_eq_getElem?_getD, List.getElem?_eq_getElem hn]; rfl))
  have HR5 := Lib.hid ((HS6T.out.at 1 rfl).lt)
  have HR6 := Lib.hid ((HS6T.out.at 0 rfl).lt)
  have HX5 : Hid (wT.cell? ⟨r5, 0, none⟩ = some (.slice (some ⟨ab1, 0, none⟩) m1 ac1)) := Lib.hid (((HS6T.out.at 1 rfl).cell 0).trans rfl)
  have HX6 : Hid (wT.cell? ⟨r6, 0, none⟩ = some (.slice (some ⟨ab2, 0, none⟩) m2 ac2)) := Lib.hid (((HS6T.out.at 0 rfl).cell 0).trans rfl)
  have HX7 : Hid (wT.cell? ⟨r6, 1, none⟩ = some (.slice (some ⟨bn, 0, none⟩) nm2.length nc2)) := Lib.hid (((HS6T.out.at 0 rfl).cell 1).trans rfl)
  clear hb1 hc1 hb2 hc2 hbn hcn HS6T HA1T HA2T HN2T
  go_loopg [8] m1 (fun gk iv wr => ∃ (i : Nat) (F : Nat → Prop), iv = .int .i64 i ∧ i ≤ k1 ∧ k1 - i ≤ gk ∧ JnW wT F wr g (gets (newS T) i))
  case atStart => exact ⟨0, _, rfl, Nat.zero_le _, by have := HK1.out; omega, HJ0.out⟩
  case round =>
    obtain ⟨i, F, rfl, hi, hgk, hj⟩ := hrel
    have HJ := Lib.hid hj
    have HG := Lib.hid hgk
    have i00 : (0 : Int) ≤ i := by omega
    have cr : wr.cell? ⟨r5, 0, none⟩ = some (.slice (some ⟨ab1, 0, none⟩) m1 ac1) := (hj.bel.cell HR5.out).trans HX5.out
    have him : (i : Int) < m1 := by have := HK1.out; omega
    by_cases hik : i < k1
    · have hik' : (i : Int) + 1 < m1 := by have := HK1.out; omega
      have HIK := Lib.hid hik
      obtain ⟨⟨v, p, u, id, t⟩, hx⟩ : ∃ x, (gets (newS la) i).sym = x := ⟨_, rfl⟩
      obtain ⟨tb, htb⟩ : ∃ tb : ByteArray, (⟨t.toArray⟩ : ByteArray) = tb := ⟨_, rfl⟩
      have hz : (gets (newS T) i).sym = ⟨v, p, u, id, t⟩ := (HJP.out.1 i hik).trans hx
      have HZ := Lib.hid hz
      have HTT := Lib.hid htb
      have HLD : Hid (∀ w', Below wT.heap.size wT w' → (Instr.loadAt 30 (.pointer (some ⟨ab1, i * 5, none⟩))).run Try.prog w' = .ok (.agg #[.int .i64 v, .int .i64 p, .int .i32 u, .int .i64 id, .string tb]) w') := Lib.hid (fun w' k => load_mid (cs := [.int .i64 v, .int .i64 p, .int .i32 u, .int .i64 id, .string tb]) (fun q y hy => (k.cell (p := ⟨ab1, i * 5 + q, none⟩) HB1.out).trans (HC1.out i v p u id t tb (by have := HK1.out; omega) hx htb q y hy)) Try.underlying30 rfl (by kernel_rfl))
      have hsm := sym_same v p u id tb
      have HSY : Hid (∀ F w g, Scn F w g (gets (newS T) i) → Calls Try.prog 13 #[.pointer (some ⟨g, 0, none⟩)] w fun e w' => e = .returned (.agg #[.int .i64 v, .int .i64 p, .int .i32 u, .int .i64 id, .string tb]) ∧ Below w.heap.size w w') := Lib.hid (fun F w g hs => by have := symbol_is hs _ HZ.out; simp only at this; rw [HTT.out] at this; exact this)
      clear hi hgk hj hik hx htb hz
      go_wp2
      refine wp_region_mix' [([0, 2, 3, 4, 5, 6], 1)] [7] (by kernel_rfl) (by kernel_rfl) (fun _ _ d _ _ h => by cases d <;> exact h) ?_
      intro wd hbd
      have HJd := Lib.hid (HJ.out.on hbd)
      have lr : ∀ x : Later (Below wd.heap.size wd), x.w.cell? ⟨r5, 0, none⟩ = some (.slice (some ⟨ab1, 0, none⟩) m1 ac1) := fun x => later_cell (Nat.lt_of_lt_of_le HR5.out HJd.out.bel.size) ((HJd.out.bel.cell HR5.out).trans HX5.out) x
      clear hbd cr
      refine mix_step ?_
      simp only [pickOps, nth]
      (repeat (go_big_quiet_step (fail)))
      go_big_quiet_want
      refine quiet_load 30 _ rfl rfl (fun x => HLD.out x.w (bel_then HJd.out.bel x.ok)) ?_
      go_big_quiet_on
      refine wpQuiet_nil ?_
      clear lr
      go_wp2_with (refine (HSY.out _ _ _ HJd.out.scn).mono ?_; rintro e we ⟨rfl, hbe⟩; have HBe := Lib.hid hbe; clear hbe)
      refine ⟨HBe.out, mix_end ?_⟩
      simp only [pickOps, nth, Act.put, List.setIfInBounds_toArray, List.set_cons_succ, List.set_cons_zero]
      (repeat (go_big_quiet_step (fail)))
      refine wpQuiet_nil ?_
      have HJe := Lib.hid (HJd.out.on HBe.out)
      have f7 : True := trivial
      go_wp2_with (have _f := f7; refine (get_is HJe.out.scn HJe.out.lt).mono ?_; rintro e wg ⟨rfl, h6, k6⟩; have HJg := Lib.hid (HJe.out.got h6 k6); clear h6 k6 _f f7)
      go_roundg (gk - 1)
      case measure => have := HG.out; have := HIK.out; omega
      case rel => exact ⟨i + 1, _, by go_num, HIK.out, by have := HG.out; omega, HJg.out⟩
    · have hik' : ¬ (i : Int) + 1 < m1 := by have := HK1.out; omega
      obtain rfl : k1 = i := by omega
      clear hi hgk hj hik
      go_wp2
      clear cr
      go_loopg [9] m2 (fun gk iv wr => ∃ (i : Nat) (F : Nat → Prop), iv = .int .i64 i ∧ i ≤ m2 ∧ m2 - i ≤ gk ∧ JnW wT F wr g (gets (newS T) (k1 + i)))
      case atStart => exact ⟨0, _, rfl, Nat.zero_le _, Nat.le_refl _, HJ.out⟩
      case round =>
        obtain ⟨i, F, rfl, hi, hgk, hj⟩ := hrel
        have HJ := Lib.hid hj
        have HG := Lib.hid hgk
        have i00 : (0 : Int) ≤ i := by omega
        have cr : wr.cell? ⟨r6, 0, none⟩ = some (.slice (some ⟨ab2, 0, none⟩) m2 ac2) := (hj.bel.cell HR6.out).trans HX6.out
        by_cases him : i < m2
        · have him' : (i : Int) < m2 := by omega
          have HIM := Lib.hid him
          obtain ⟨⟨v', p', u', id', t'⟩, ⟨v, p, u, id, t⟩, hz, hx, z1, z2, z3, z4, z5⟩ := HJP.out.2.1 i (by have := HK2.out; omega)
          simp only at z1 z2 z3 z4 z5
          subst z1
          subst z2
          subst z3
          obtain ⟨pn, hpn, hpl⟩ := syms_pos HY2.out (i := i) (by have := HK2.out; omega)
          rw [hx] at hpn
          simp only at hpn
          subst hpn
          obtain ⟨tb, htb⟩ : ∃ tb : ByteArray, (⟨t'.toArray⟩ : ByteArray) = tb := ⟨_, rfl⟩
          have HZ := Lib.hid hz
          have HTT := Lib.hid htb
          have p00 : (0 : Int) ≤ pn := by omega
          have p01 : (pn : Int) ≤ 1000 := by have := HLB.out; omega
          have p02 : (la.length : Int) ≤ 1000 := by have := HLA.out; omega
          subst z4
          have HZ5 := Lib.hid z5
          have hcc := HC2.out i v' pn u' id t' tb him hx htb
          have HCC := Lib.hid hcc
          have HSY : Hid (∀ F w g, Scn F w g (gets (newS T) (k1 + i)) → Calls Try.prog 13 #[.pointer (some ⟨g, 0, none⟩)] w fun e w' => e = .returned (.agg #[.int .i64 v', .int .i64 (pn + la.length + 1), .int .i32 u', .int .i64 id', .string tb]) ∧ Below w.heap.size w w') := Lib.hid (fun F w g hs => by have := symbol_is hs _ HZ.out; simp only at this; rw [HTT.out] at this; exact this)
          clear hi hgk hj him hx htb hz z5 hpl hcc
          have f1 : True := trivial
          have f2 : True := trivial
          have f3 : True := trivial
          have f4 : True := trivial
          have f5 : True := trivial
          have f6 : True := trivial
          go_wp2_with (first | (have _f := f1; refine (HSY.out _ _ _ HJ.out.scn).mono ?_; rintro e wb ⟨rfl, hb⟩; have HJb := Lib.hid (HJ.out.on hb); clear hb; clear _f f1) | (have _f := f2; refine alloc_sep rfl 30 rfl (HSN.out _) (z := .agg #[.int .i64 0, .int .i64 0, .int .i32 0, .int .i64 0, .string ⟨#[]⟩]) (cs := #[.int .i64 0, .int .i64 0, .int .i32 0, .int .i64 0, .string ⟨#[]⟩]) (by kernel_rfl) rfl ?_; intro wc S' b' s'; have HSc := Lib.hid S'; have HBc := Lib.hid b'; clear S' b' s'; clear _f f2) | (have _f := f3; refine store_sep (cells := #[.int .i64 v', .int .i64 (pn + la.length + 1), .int .i32 u', .int .i64 id', .string tb]) rfl 30 (.tmp 10) (.tmp 79) rfl HSc.out 0 rfl rfl rfl (by kernel_rfl) rfl rfl ?_; intro we S' k' s'; have HSe := Lib.hid S'; have HBe : Hid (Below wb.heap.size wb we) := Lib.hid (((Ke.below (· = wb.heap.size) HBc.out).trans k').toBelow (fun i hi e => absurd e (Nat.ne_of_lt hi))); have HJe := Lib.hid (HJb.out.more HBe.out); have cr := (HJe.out.bel.cell HR6.out).trans HX6.out; clear S' k' s'; clear _f f3) | (have _f := f4; refine wpList_load_mid rfl 30 (.tmp 83) rfl ab2 (i * 5) rfl [.int .i64 v', .int .i64 pn, .int .i32 u', .int .i64 id, .string tb] _ (fun q y hy => (HJe.out.bel.cell (p := ⟨ab2, i * 5 + q, none⟩) HB2.out).trans (HCC.out q y hy)) Try.underlying30 rfl (by kernel_rfl) ?_; clear _f f4) | (have _f := f5; refine alloc_sep rfl 30 rfl HSe.out (z := .agg #[.int .i64 0, .int .i64 0, .int .i32 0, .int .i64 0, .string ⟨#[]⟩]) (cs := #[.int .i64 0, .int .i64 0, .int .i32 0, .int .i64 0, .string ⟨#[]⟩]) (by kernel_rfl) rfl ?_; intro wf S' b' s'; have HSf := Lib.hid S'; have HBf := Lib.hid b'; clear S' b' s'; clear _f f5) | (have _f := f6; refine store_sep (cells := #[.int .i64 v', .int .i64 pn, .int .i32 u', .int .i64 id, .string tb]) rfl 30 (.tmp 11) (.tmp 84) rfl HSf.out 0 rfl rfl rfl (by kernel_rfl) rfl rfl ?_; intro wh S' k' s'; have HSh := Lib.hid S'; have HBh : Hid (Below we.heap.size we wh) := Lib.hid (((Ke.below (· = we.heap.size) HBf.out).trans k').toBelow (fun i hi e => absurd e (Nat.ne_of_lt hi))); have HJh := Lib.hid (HJe.out.more HBh.out); clear S' k' s'; clear _f f6))
          clear cr
          by_cases h25 : v' = 25
          · obtain ⟨q0, q1, q2⟩ := HZ5.out h25
            obtain ⟨n, rfl⟩ := Int.eq_ofNat_of_zero_le q0
            rw [← HNM2.out] at q1 q2
            have hn : n < nm2.length := by omega
            obtain ⟨xs, hxs⟩ : ∃ xs : ByteArray, nameV ((gets (newS T) (k1 + i)).nameOf id') = .string xs := ⟨_, rfl⟩
            have HXS := Lib.hid hxs
            have HXN : Hid (wT.cell? ⟨bn, n, none⟩ = some (.string xs)) := Lib.hid (by rw [← hxs, q2]; exact HCN.out n hn)
            have n0 : (0 : Int) ≤ n := by omega
            have n1 : (n : Int) < nm2.length := by omega
            subst h25
            clear q0 q1 q2 hn hxs
            refine wp_region_mix' [([0, 1, 2, 3, 4, 5, 6, 7, 8, 9, 10, 11, 12, 13, 14, 15, 16, 17, 18, 19, 20, 21, 22, 23, 24, 25, 26, 27, 28, 29, 30, 31, 32, 33, 34, 35, 36, 37, 39, 40, 41, 42, 43, 44], 38)] [45, 46, 47] (by kernel_rfl) (by kernel_rfl) (fun _ _ d _ _ h => by cases d <;> exact h) ?_
            intro wd hbd
            have HJd := Lib.hid (HJh.out.on hbd)
            have hzd := (HSh.out.at 1 rfl).bel hbd
            have hwd := (HSh.out.at 0 rfl).bel hbd
            have x0 := fun (x : Later (Below wd.heap.size wd)) => hzd.laterCellB 0 (v := .int .i64 25) rfl x
            have x1 := fun (x : Later (Below wd.heap.size wd)) => hzd.laterCellB 1 (v := .int .i64 (pn + la.length + 1)) rfl x
            have x2 := fun (x : Later (Below wd.heap.size wd)) => hzd.laterCellB 2 (v := .int .i32 u') rfl x
            have x3 := fun (x : Later (Below wd.heap.size wd)) => hzd.laterCellB 3 (v := .int .i64 id') rfl x
            have x4 := fun (x : Later (Below wd.heap.size wd)) => hzd.laterCellB 4 (v := .string tb) rfl x
            have y0 := fun (x : Later (Below wd.heap.size wd)) => hwd.laterCellB 0 (v := .int .i64 25) rfl x
            have y1 := fun (x : Later (Below wd.heap.size wd)) => hwd.laterCellB 1 (v := .int .i64 pn) rfl x
            have y2 := fun (x : Later (Below wd.heap.size wd)) => hwd.laterCellB 2 (v := .int .i32 u') rfl x
            have y3 := fun (x : Later (Below wd.heap.size wd)) => hwd.laterCellB 3 (v := .int .i64 n) rfl x
            have y4 := fun (x : Later (Below wd.heap.size wd)) => hwd.laterCellB 4 (v := .string tb) rfl x
            have z0 := fun (x : Later (Below wd.heap.size wd)) => later_cell (p := ⟨r6, 1, none⟩) (Nat.lt_of_lt_of_le HR6.out HJd.out.bel.size) ((HJd.out.bel.cell HR6.out).trans HX7.out) x
            have z1 := fun (x : Later (Below wd.heap.size wd)) => later_cell (p := ⟨bn, n, none⟩) (Nat.lt_of_lt_of_le HBN.out HJd.out.bel.size) ((HJd.out.bel.cell HBN.out).trans HXN.out) x
            have s1 : IntKind.i64.wrap ((pn : Int) + la.length) = pn + la.length := IntWalk.i64_in _ (by omega)
            have s2 : IntKind.i64.wrap ((pn : Int) + la.length + 1) = pn + la.length + 1 := IntWalk.i64_in _ (by omega)
            clear hbd hzd hwd
            refine mix_step ?_
            simp only [pickOps, nth, Act.put, List.setIfInBounds_toArray, List.set_cons_succ, List.set_cons_zero]
            (repeat (go_big_quiet_step (fail)))
            refine wpQuiet_nil ?_
            clear x0 x1 x2 x3 x4 y0 y1 y2 y3 y4 s1 s2 z0 z1
            go_wp2_with (refine (name_is HJd.out.scn _ xs HXS.out).mono ?_; rintro e wj ⟨rfl, rfl⟩)
            refine ⟨Below.refl _ _, mix_end ?_⟩
            simp only [pickOps, nth, Act.put, List.setIfInBounds_toArray, List.set_cons_succ, List.set_cons_zero]
            (repeat (go_big_quiet_step (fail)))
            refine wpQuiet_nil ?_
            have f7 : True := trivial
            go_wp2_with (have _f := f7; refine (get_is HJd.out.scn HJd.out.lt).mono ?_; rintro e wg ⟨rfl, h6, k6⟩; have HJg := Lib.hid (HJd.out.got h6 k6); clear h6 k6 _f f7)
            go_roundg (gk - 1)
            case measure => have := HG.out; have := HIM.out; omega
            case rel => exact ⟨i + 1, _, by go_num, HIM.out, by have := HG.out; omega, HJg.out⟩
          · have h25' : (v' == 25) = false := by simpa using h25
            clear h25
            refine wp_region_mix' [([0, 1, 2, 3, 4, 5, 6, 7, 8, 9, 10, 11, 12, 13, 14, 15, 16, 17, 18, 19, 20, 21, 22, 23, 24, 25, 26, 27, 28, 29, 30, 31, 32, 33, 34, 35, 36, 37, 39, 40, 41, 42, 43, 44], 38)] [45, 46, 47] (by kernel_rfl) (by kernel_rfl) (fun _ _ d _ _ h => by cases d <;> exact h) ?_
            intro wd hbd
            have HJd := Lib.hid (HJh.out.on hbd)
            have hzd := (HSh.out.at 1 rfl).bel hbd
            have hwd := (HSh.out.at 0 rfl).bel hbd
            have x0 := fun (x : Later (Below wd.heap.size wd)) => hzd.laterCellB 0 (v := .int .i64 v') rfl x
            have x1 := fun (x : Later (Below wd.heap.size wd)) => hzd.laterCellB 1 (v := .int .i64 (pn + la.length + 1)) rfl x
            have x2 := fun (x : Later (Below wd.heap.size wd)) => hzd.laterCellB 2 (v := .int .i32 u') rfl x
            have x3 := fun (x : Later (Below wd.heap.size wd)) => hzd.laterCellB 3 (v := .int .i64 id') rfl x
            have x4 := fun (x : Later (Below wd.heap.size wd)) => hzd.laterCellB 4 (v := .string tb) rfl x
            have y0 := fun (x : Later (Below wd.heap.size wd)) => hwd.laterCellB 0 (v := .int .i64 v') rfl x
            have y1 := fun (x : Later (Below wd.heap.size wd)) => hwd.laterCellB 1 (v := .int .i64 pn) rfl x
            have y2 := fun (x : Later (Below wd.heap.size wd)) => hwd.laterCellB 2 (v := .int .i32 u') rfl x
            have y3 := fun (x : Later (Below wd.heap.size wd)) => hwd.laterCellB 3 (v := .int .i64 id) rfl x
            have y4 := fun (x : Later (Below wd.heap.size wd)) => hwd.laterCellB 4 (v := .string tb) rfl x
            have s1 : IntKind.i64.wrap ((pn : Int) + la.length) = pn + la.length := IntWalk.i64_in _ (by omega)
            have s2 : IntKind.i64.wrap ((pn : Int) + la.length + 1) = pn + la.length + 1 := IntWalk.i64_in _ (by omega)
            clear hbd hzd hwd
            refine mix_step ?_
            simp only [pickOps, nth, Act.put, List.setIfInBounds_toArray, List.set_cons_succ, List.set_cons_zero]
            (repeat (go_big_quiet_step (fail)))
            refine wpQuiet_nil ?_
            clear x0 x1 x2 x3 x4 y0 y1 y2 y3 y4 s1 s2
            go_wp2
            refine ⟨Below.refl _ _, mix_end ?_⟩
            simp only [pickOps, nth, Act.put, List.setIfInBounds_toArray, List.set_cons_succ, List.set_cons_zero]
            (repeat (go_big_quiet_step (fail)))
            refine wpQuiet_nil ?_
            have f7 : True := trivial
            go_wp2_with (have _f := f7; refine (get_is HJd.out.scn HJd.out.lt).mono ?_; rintro e wg ⟨rfl, h6, k6⟩; have HJg := Lib.hid (HJd.out.got h6 k6); clear h6 k6 _f f7)
            go_roundg (gk - 1)
            case measure => have := HG.out; have := HIM.out; omega
            case rel => exact ⟨i + 1, _, by go_num, HIM.out, by have := HG.out; omega, HJg.out⟩
        · obtain rfl : m2 = i := by omega
          obtain ⟨hE, hP⟩ : (gets (newS T) (k1 + m2)).err = 0 ∧ (gets (newS T) (k1 + m2)).pos = 0 := by
            have := joins_err HY1.out HY2.out HJP.out.1 (fun i hi => by obtain ⟨z, x, h1, h2, h3, _⟩ := HJP.out.2.1 i hi; rw [h1, h2, h3]) HJP.out.2.2
            rw [← HK2.out] at this
            exact this
          have HE := Lib.hid hE
          have HP := Lib.hid hP
          clear hi hgk hj him hE hP
          have f1 : True := trivial
          have f2 : True := trivial
          go_wp2_with (first | (have _f := f1; refine (err_is HJ.out.scn _ _ HE.out HP.out).mono ?_; rintro e wc ⟨rfl, hb⟩; have HJc := Lib.hid (HJ.out.on hb); clear hb _f f1) | (have _f := f2; refine (known_walk _).mono ?_; rintro e wk ⟨rfl, hb⟩; have HBk := Lib.hid (bel_then (bel_then HWT.out HJc.out.bel) hb); clear hb _f f2))
          go_ret
          exact ⟨rfl, HBk.out⟩

end Go.Proofs.Ytdgiijidgjagbaa
