/- Contracts: the writer's methods. -/
import Derived.Test.YteagpjcflcahoaaObjRefBytes
import Derived.Test.YteagpjcflcahoaaAppF
import Derived.Lib.FrozenHead2
namespace Go.Proofs.Yteagpjcflcahoaa
set_option linter.unusedVariables false
set_option linter.unusedSimpArgs false
open Go.RowKit

/-- a writer, and what it has written. -/
structure Wr (w0 wr : World) (g : Nat) (n : Nat) (B : Value) (xs : List Int) : Prop where
  box : At wr g #[B] 66
  low : w0.heap.size ≤ g
  own : wr.ownsRowF w0.heap.size 5 1 B xs.length (xs.map (Value.int .u8))
  len : xs.length ≤ n
  byte : ∀ x ∈ xs, isByte x
  bel : Below w0.heap.size w0 wr
/-- blocks that are no bytes, and not the writer's, are left alone. -/
def Kept (g : Nat) (w w' : World) : Prop := ∀ (b : Nat) (cs : Array Value) (t : TypeId), At w b cs t → 5 ≠ t → b ≠ g → At w' b cs t
theorem Kept.trans {g : Nat} {a b c : World} (h : Kept g a b) (k : Kept g b c) : Kept g a c := fun d cs t ha ht hd => k d cs t (h d cs t ha ht hd) ht hd
theorem Kept.bel {g : Nat} {w w' : World} (h : Below w.heap.size w w') : Kept g w w' := fun d cs t ha _ _ => ha.bel h
variable {w0 wr wz : World} {g n : Nat} {B : Value} {xs : List Int}
theorem ownsRowF_bel {w w' : World} {base size n : Nat} {e : TypeId} {v : Value} {xs : List Value} (h : w.ownsRowF base e size v n xs) (k : Below w.heap.size w w') : w'.ownsRowF base e size v n xs := by
  obtain ⟨h2, h3⟩ := h
  refine ⟨h2, ?_⟩
  rcases h3 with h3 | ⟨b, cap, cur, fz, rfl, q2, q3, q4⟩
  · exact .inl h3
  · exact .inr ⟨b, cap, cur, fz, rfl, q2, (k.block b (Array.getElem?_eq_some_iff.1 q3).1).trans q3, q4⟩
theorem ownsRowF_no {w : World} {base n size : Nat} {e t : TypeId} {v : Value} {xs : List Value} {g : Nat} {cs : Array Value} (h : w.ownsRowF base e size v n xs) (ha : At w g cs t) (ht : e ≠ t) : v.ownBlock ≠ some g := by
  obtain ⟨_, h3⟩ := h
  rcases h3 with ⟨rfl, _⟩ | ⟨b, cap, cur, fz, rfl, _, q3, _⟩
  · simp [Value.ownBlock]
  · intro e'
    have : b = g := by simpa [Value.ownBlock] using e'
    subst this
    unfold At at ha
    rw [q3] at ha
    simp only [Option.some.injEq, Obj.cells.injEq] at ha
    exact ht ha.2.1
theorem bel_ownF {w0 w w' : World} {e : TypeId} {size n : Nat} {v : Value} {xs : List Value} (hb : Below w0.heap.size w0 w) (own : w.ownsRowF w0.heap.size e size v n xs) (hg : w.grownBy w' v.ownBlock) : Below w0.heap.size w0 w' :=
  ((Ke.below (fun i => w0.heap.size ≤ i) hb).trans ((Ke.ofGrown hg).mono (fun i _ e => (own.lt i e).1))).toBelow (fun i hi e => absurd hi (Nat.not_lt.2 e))
theorem ownF_slice {w : World} {base n size : Nat} {e : TypeId} {v : Value} {xs : List Value} (h : w.ownsRowF base e size v n xs) : ∃ a c, v = .slice a n c := by
  obtain ⟨_, h3⟩ := h
  rcases h3 with ⟨rfl, rfl⟩ | ⟨b, cap, cur, fz, rfl, _⟩
  · exact ⟨_, _, rfl⟩
  · exact ⟨_, _, rfl⟩
theorem Wr.on (h : Wr w0 wr g n B xs) (k : Below wr.heap.size wr wz) : Wr w0 wz g n B xs := ⟨h.box.bel k, h.low, ownsRowF_bel h.own k, h.len, h.byte, bel_then h.bel k⟩
theorem Wr.more (h : Wr w0 wr g n B xs) {n' : Nat} (hn : n ≤ n') : Wr w0 wr g n' B xs := ⟨h.box, h.low, h.own, Nat.le_trans h.len hn, h.byte, h.bel⟩
theorem Wr.room (h : Wr w0 wr g n B xs) {m : Nat} (hm : n + m ≤ 1000000) : (xs.length + m) * 1 ≤ 140737488355328 := by have := h.len; omega
theorem Wr.room' (h : Wr w0 wr g n B xs) {m : Nat} (hm : n + m ≤ 1000000) : xs.length + m ≤ 140737488355328 := by have := h.len; omega
/-- an append, its result not yet stored. -/
theorem Wr.grow (h : Wr w0 wr g n B xs) {B' : Value} {m : Nat} {ys : List Int} {w1 : World} (own : w1.ownsRowF w0.heap.size 5 1 B' (xs.length + m) (xs.map (Value.int .u8) ++ ys.map (Value.int .u8))) (hg : wr.grownBy w1 B.ownBlock) (hm : ys.length = m) (hy : ∀ x ∈ ys, isByte x) :
    At w1 g #[B] 66 ∧ ∀ wz, At wz g #[B'] 66 → Ke (· = g) w1 wz → Wr w0 wz g (n + m) B' (xs ++ ys) ∧ Kept g wr wz := by
  subst hm
  rw [← List.map_append, ← List.length_append] at own
  have hb := h.box.ke (Ke.ofGrown hg) (ownsRowF_no h.own h.box (by decide))
  refine ⟨hb, fun wz ha k => ⟨⟨ha, h.low, ?_, by rw [List.length_append]; have := h.len; omega, fun x hx => (List.mem_append.1 hx).elim (h.byte x) (hy x), ?_⟩, fun d cs t ha ht hd => (ha.ke (Ke.ofGrown hg) (ownsRowF_no h.own ha ht)).ke k hd⟩⟩
  · obtain ⟨h2, h3⟩ := own
    refine ⟨h2, ?_⟩
    rcases h3 with h3 | ⟨b, cap, cur, fz, rfl, q2, q3, q4⟩
    · exact .inl h3
    · refine .inr ⟨b, cap, cur, fz, rfl, q2, (k.block b (Array.getElem?_eq_some_iff.1 q3).1 (fun e => ?_)).trans q3, q4⟩
      subst e
      unfold At at hb
      rw [q3] at hb
      simp only [Option.some.injEq, Obj.cells.injEq] at hb
      exact absurd hb.2.1 (by decide)
  · exact ((Ke.below (fun i => w0.heap.size ≤ i) (bel_ownF h.bel h.own hg)).trans (k.mono (fun i _ e => by subst e; exact h.low))).toBelow (fun i hi e => absurd hi (Nat.not_lt.2 e))
theorem byte1 (v : Int) : ∀ x ∈ ([v % 256] : List Int), isByte x := fun x hx => by rw [List.mem_singleton] at hx; subst hx; exact ⟨by omega, by omega⟩

/-- what a method leaves. -/
def Wrote (w0 wr : World) (g n : Nat) (B : Value) (xs ys : List Int) (w' : World) : Prop := ∃ B', Wr w0 w' g (n + ys.length) B' (xs ++ ys) ∧ Kept g wr w'

set_option maxHeartbeats 1000000 in
theorem wbyte_walk (h : Wr w0 wr g n B xs) (hn : n ≤ 900000) (v : Int) :
    Calls Try.prog 34 #[.pointer (some ⟨g, 0, none⟩), .int .i64 v] wr fun e w' => e = .returned (.tuple #[]) ∧ Wrote w0 wr g n B xs [v % 256] w' := by
  have HW := Lib.hid h
  have c0 : wr.cell? ⟨g, 0, none⟩ = some B := (h.box.cell 0).trans rfl
  have HW1 := Lib.hid (h.on (bel1 wr (.cells #[.int .u8 (v % 256)] 5)))
  have HR1 : Hid (RdI .u8 (wr.alloc (.cells #[.int .u8 (v % 256)] 5)) (some ⟨wr.heap.size, 0, none⟩) 1 [v % 256]) := Lib.hid (by have := rd_lit8 wr [v % 256] (byte1 v) (show 1 ≤ 1000 by decide); exact this)
  have HR2 : Hid (n + 1 ≤ 1000000) := Lib.hid (by omega)
  have f1 : True := trivial
  have f2 : True := trivial
  clear h hn
  go_enter Try.func34, Try.ntmps34
  go_wp2_with (first | (have _f := f1; at_builtin; refine append_atF rfl (.tmp 8) (.tmp 11) et_u8 rfl w0.heap.size rfl HW1.out.own rfl HR1.out.row (by rw [List.length_map]; rfl) (ints_one .u8 _) (HW1.out.room HR2.out) (HW1.out.room' HR2.out) HW1.out.bel.size ?_; intro v' w1 own1 gr1; have HG := Lib.hid (HW1.out.grow own1 gr1 rfl (byte1 v)); have HS := Lib.hid (Sep.one HG.out.1); have HK := Lib.hid (Kept.bel (g := g) (bel1 wr (.cells #[.int .u8 (v % 256)] 5))); obtain ⟨pa, pc, rfl⟩ := ownF_slice own1; clear own1 gr1 c0 _f f1) | (have _f := f2; refine store1_sep rfl 24 (.tmp 14) (.tmp 12) rfl HS.out 0 (old := #[B]) (v := .slice pa (xs.length + 1) pc) rfl rfl rfl rfl (by kernel_rfl) rfl ?_; intro w2 S2 k2 _; have HE := Lib.hid (HG.out.2 w2 (S2.at 0 rfl) k2); clear S2 k2 _f f2))
  go_end0
  exact ⟨rfl, _, HE.out.1, HK.out.trans HE.out.2⟩

theorem wordB_eq {v : Int} (h : 0 ≤ v ∧ v < 4294967296) : wordB v = [v % 256, v / 256 % 256, v / 65536 % 256, v / 16777216] := by unfold wordB; rw [show v / 16777216 % 256 = v / 16777216 by omega]
set_option maxHeartbeats 1000000 in
theorem wword_walk (h : Wr w0 wr g n B xs) (hn : n ≤ 900000) (v : Int) (hv : 0 ≤ v ∧ v < 4294967296) :
    Calls Try.prog 33 #[.pointer (some ⟨g, 0, none⟩), .int .u32 v] wr fun e w' => e = .returned (.tuple #[]) ∧ Wrote w0 wr g n B xs (wordB v) w' := by
  have HW := Lib.hid h
  have c0 : wr.cell? ⟨g, 0, none⟩ = some B := (h.box.cell 0).trans rfl
  have HW1 := Lib.hid (h.on (bel1 wr (.cells #[.int .u8 (v % 256), .int .u8 (v / 256 % 256), .int .u8 (v / 65536 % 256), .int .u8 (v / 16777216)] 5)))
  have HR1 : Hid (RdI .u8 (wr.alloc (.cells #[.int .u8 (v % 256), .int .u8 (v / 256 % 256), .int .u8 (v / 65536 % 256), .int .u8 (v / 16777216)] 5)) (some ⟨wr.heap.size, 0, none⟩) 4 (wordB v)) := Lib.hid (by have := rd_lit8 wr (wordB v) (wordB_byte v) (show 4 ≤ 1000 by decide); have e := wordB_eq hv; rw [e] at this ⊢; exact this)
  have HR2 : Hid (n + 4 ≤ 1000000) := Lib.hid (by omega)
  have f1 : True := trivial
  have f2 : True := trivial
  obtain ⟨v0, v1⟩ := hv
  clear h hn
  go_enter Try.func33, Try.ntmps33
  go_wp2_with (first | (have _f := f1; at_builtin; refine append_atF rfl (.tmp 8) (.tmp 20) et_u8 rfl w0.heap.size rfl HW1.out.own rfl HR1.out.row (by rw [List.length_map]; rfl) (ints_one .u8 _) (HW1.out.room HR2.out) (HW1.out.room' HR2.out) HW1.out.bel.size ?_; intro v' w1 own1 gr1; have HG := Lib.hid (HW1.out.grow own1 gr1 rfl (wordB_byte v)); have HS := Lib.hid (Sep.one HG.out.1); have HK := Lib.hid (Kept.bel (g := g) (bel1 wr (.cells #[.int .u8 (v % 256), .int .u8 (v / 256 % 256), .int .u8 (v / 65536 % 256), .int .u8 (v / 16777216)] 5))); obtain ⟨pa, pc, rfl⟩ := ownF_slice own1; clear own1 gr1 c0 _f f1) | (have _f := f2; refine store1_sep rfl 24 (.tmp 23) (.tmp 21) rfl HS.out 0 (old := #[B]) (v := .slice pa (xs.length + 4) pc) rfl rfl rfl rfl (by kernel_rfl) rfl ?_; intro w2 S2 k2 _; have HE := Lib.hid (HG.out.2 w2 (S2.at 0 rfl) k2); clear S2 k2 _f f2))
  go_end0
  exact ⟨rfl, _, HE.out.1, HK.out.trans HE.out.2⟩

set_option maxHeartbeats 1000000 in
theorem wname_walk (h : Wr w0 wr g n B xs) (hn : n ≤ 800000) (s : ByteArray) (hs : s.size ≤ 15) :
    Calls Try.prog 32 #[.pointer (some ⟨g, 0, none⟩), .string s] wr fun e w' => e = .returned (.tuple #[]) ∧ Wrote w0 wr g n B xs (nameB s) w' := by
  have HW := Lib.hid h
  have HN := Lib.hid (show n ≤ 900000 by omega)
  have HN2 : Hid (n + 1 + s.size ≤ 1000000) := Lib.hid (by omega)
  have s15 : (s.size : Int) ≤ 15 := by omega
  have HM2 : Hid ((xs ++ [(s.size : Int) % 256]).length + s.size ≤ 140737488355328) := Lib.hid (by rw [List.length_append]; have := h.len; show xs.length + 1 + s.size ≤ _; omega)
  have HM1 : Hid ((xs ++ [(s.size : Int) % 256]).length + s.size ≤ maxLen) := Lib.hid (by have := HM2.out; unfold maxLen; omega)
  obtain ⟨ti, hti, hti0, hti1, hti2⟩ := info_parts info_u8
  have HT := Lib.hid (And.intro hti (And.intro hti0 (And.intro hti1 hti2)))
  clear hti hti0 hti1 hti2 h hn
  have f1 : True := trivial
  have f2 : True := trivial
  have f3 : True := trivial
  go_enter Try.func32, Try.ntmps32
  go_wp2_with (first | (have _f := f1; refine (wbyte_walk HW.out HN.out s.size).mono ?_; rintro e w1 ⟨rfl, B1, hw, hk⟩; have HW1 := Lib.hid hw; have HK1 := Lib.hid hk; have c0 := (hw.box.cell 0).trans (show _ = some B1 from rfl); clear hw hk _f f1) | (have _f := f2; refine Lib.wpList_append_own_stringF _ rfl (.tmp 12) (.tmp 13) 24 9 rfl w0.heap.size 5 ti Try.underlying24 Try.underlying9 HT.out.1 HT.out.2.1 HT.out.2.2.1 HT.out.2.2.2 B1 (xs ++ [(s.size : Int) % 256]).length _ rfl HW1.out.own s rfl HM1.out HM2.out HW1.out.bel.size ?_; intro v' w2 own2 gr2 _; have HG := Lib.hid (HW1.out.grow (ys := bytesI s) (by rw [← strCells_bytes]; exact own2) gr2 (bytesI_len s) (bytesI_byte s)); have HS := Lib.hid (Sep.one HG.out.1); have hl : (xs ++ [(s.size : Int) % 256]).length + s.size = xs.length + 1 + s.size := congrArg (· + s.size) List.length_append; rw [hl] at own2; obtain ⟨pa, pc, rfl⟩ := ownF_slice own2; clear own2 gr2 c0 hl _f f2) | (have _f := f3; refine store1_sep rfl 24 (.tmp 16) (.tmp 14) rfl HS.out 0 (old := #[B1]) (v := .slice pa (xs.length + 1 + s.size) pc) rfl rfl rfl rfl (by kernel_rfl) rfl ?_; intro w3 S2 k2 _; have HE := Lib.hid (HG.out.2 w3 (S2.at 0 rfl) k2); clear S2 k2 _f f3))
  go_end0
  have h1 := HE.out.1
  rw [List.append_assoc] at h1
  refine ⟨rfl, .slice pa (xs.length + 1 + s.size) pc, ?_, HK1.out.trans HE.out.2⟩
  rw [nameB_len]
  refine h1.more ?_
  show n + 1 + s.size ≤ n + (1 + s.size)
  omega

/-- a writer that holds a constant's two bytes. -/
structure Wr1 (w0 wr : World) (g b : Nat) : Prop where
  box : At wr g #[.slice (some ⟨b, 0, none⟩) 2 2] 66
  low : w0.heap.size ≤ g
  c0 : wr.cell? ⟨b, 0, none⟩ = some (.int .u8 79)
  c1 : wr.cell? ⟨b, 1, none⟩ = some (.int .u8 49)
  lt : b < wr.heap.size
  bel : Below w0.heap.size w0 wr
theorem Wr1.on {b : Nat} (h : Wr1 w0 wr g b) (k : Below wr.heap.size wr wz) : Wr1 w0 wz g b := ⟨h.box.bel k, h.low, (k.cell h.lt).trans h.c0, (k.cell h.lt).trans h.c1, Nat.lt_of_lt_of_le h.lt k.size, bel_then h.bel k⟩
theorem append_full {P : Program} {w : World} {ops : Array Oper} {rest : List Oper} {o : Oper} {a : Act} {Q : Exit → Act → World → Prop} (hgd : o.guard = none)
    (s x : Operand) {t e : TypeId} {z : Value} {size bytes : Nat} (ht : ET P t e z size bytes) (ho : o.op = .call { callee := .builtin .append, args := #[s, x], argTypes := #[t, t] })
    {ad0 : Addr} {n : Nat} {xs : List Value} (hs : a.eval s = .slice (some ad0) n n) (hxl : xs.length = n * size) (hcells : ∀ j u, xs[j]? = some u → w.cell? (ad0.add j) = some u) {ad : Addr} {m c : Nat} {news : List Value}
    (hx : a.eval x = .slice (some ad) m c) (hnews : ∀ j u, news[j]? = some u → w.cell? (ad.add j) = some u) (hl : news.length = m * size) (h1 : ∀ u ∈ news, u.oneCell' = true) (hm : 0 < m)
    (hbytes : (n + m) * bytes ≤ 140737488355328) (h63 : n + m ≤ maxLen)
    (h : ∀ (v' : Value) (w' : World), w'.ownsRow w.heap.size e size v' (n + m) (xs ++ news) → w.grownBy w' none → wpList P ops Q rest (a.put o.dst v') w') :
    wpList P ops Q (o :: rest) a w := by
  obtain ⟨⟨i, h2, hi, hz, hsz, hb⟩, hzs, hpos⟩ := ht
  obtain ⟨v', w', hr, r1, r2⟩ := run_append_arg_grows (P := P) w t o.type e i z size bytes h2 hi hz hsz hb hzs hpos ad0 n n xs hxl hcells ad m c news hl hnews (by omega) h63 hbytes
  have hh := h v' w' r1 r2
  refine wpList_plain hgd fun K hK => ?_
  unfold Oper.wp execOp
  simp only [ho, resolve, invoke, builtin, Sem.run_bind, Sem.run_pure, Result.andThen_ok, List.map_toArray, List.map_cons, List.map_nil, hs, hx, hr]
  exact hK _ _ hh
theorem ownsRow_weak {w : World} {base base' size n : Nat} {e : TypeId} {v : Value} {xs : List Value} (h : w.ownsRow base e size v n xs) (hb : base' ≤ base) : w.ownsRow base' e size v n xs := by
  obtain ⟨h2, h3⟩ := h
  refine ⟨h2, ?_⟩
  rcases h3 with h3 | ⟨b, cap, cur, rfl, q2, q3, q4⟩
  · exact .inl h3
  · exact .inr ⟨b, cap, cur, rfl, Nat.le_trans hb q2, q3, q4⟩
theorem wr1_cells {b : Nat} (h : Wr1 w0 wr g b) : ∀ (j : Nat) (u : Value), (([79, 49] : List Int).map (Value.int .u8))[j]? = some u → wr.cell? ((⟨b, 0, none⟩ : Addr).add j) = some u := by
  intro j u hj
  rcases j with _ | _ | j
  · rw [Addr.add_lit, Nat.zero_add, h.c0]; simpa using hj
  · rw [Addr.add_lit, Nat.zero_add, h.c1]; simpa using hj
  · simp at hj

set_option maxHeartbeats 1000000 in
theorem wbyte_first {b : Nat} (h : Wr1 w0 wr g b) (v : Int) :
    Calls Try.prog 34 #[.pointer (some ⟨g, 0, none⟩), .int .i64 v] wr fun e w' => e = .returned (.tuple #[]) ∧ (∃ B', Wr w0 w' g 3 B' ([79, 49] ++ [v % 256])) ∧ Kept g wr w' := by
  have c0 : wr.cell? ⟨g, 0, none⟩ = some (.slice (some ⟨b, 0, none⟩) 2 2) := (h.box.cell 0).trans rfl
  have HW1 := Lib.hid (h.on (bel1 wr (.cells #[.int .u8 (v % 256)] 5)))
  have HN := Lib.hid (At.new wr #[.int .u8 (v % 256)] 5)
  have HK := Lib.hid (Kept.bel (g := g) (bel1 wr (.cells #[.int .u8 (v % 256)] 5)))
  have f1 : True := trivial
  have f2 : True := trivial
  clear h
  go_enter Try.func34, Try.ntmps34
  go_wp2_with (first | (have _f := f1; at_builtin; refine append_full rfl (.tmp 8) (.tmp 11) et_u8 rfl (ad0 := ⟨b, 0, none⟩) (n := 2) (xs := ([79, 49] : List Int).map (Value.int .u8)) rfl rfl (wr1_cells HW1.out) (ad := ⟨wr.heap.size, 0, none⟩) (m := 1) (c := 1) (news := ([v % 256] : List Int).map (Value.int .u8)) rfl (fun j u hj => by rw [Addr.add_lit, Nat.zero_add, HN.out.cell]; simpa using hj) rfl (ints_one .u8 _) (by decide) (by decide) (by decide) ?_; intro v' w1 own1 gr1; have HO := Lib.hid own1; have HG := Lib.hid gr1; have HBX := Lib.hid (HW1.out.box.ke (Ke.ofGrown gr1) (fun e => by cases e)); have HS := Lib.hid (Sep.one HBX.out); obtain ⟨pa, pc, rfl, rd4⟩ := RdC.own own1; clear own1 gr1 c0 rd4 _f f1) | (have _f := f2; refine store1_sep rfl 24 (.tmp 14) (.tmp 12) rfl HS.out 0 (old := #[.slice (some ⟨b, 0, none⟩) 2 2]) (v := .slice pa (2 + 1) pc) rfl rfl rfl rfl (by kernel_rfl) rfl ?_; intro w2 S2 k2 _; have HB2 := Lib.hid (S2.at 0 rfl); have HK2 := Lib.hid k2; clear S2 k2 _f f2))
  go_end0
  have hbw : Below w0.heap.size w0 w1 := bel_then HW1.out.bel ((Ke.ofGrown HG.out).toBelow (fun i _ e => by cases e))
  have hok : w2.ownsRow (wr.alloc (.cells #[.int .u8 (v % 256)] 5)).heap.size 5 1 (.slice pa (2 + 1) pc) (2 + 1) (([79, 49] : List Int).map (Value.int .u8) ++ ([v % 256] : List Int).map (Value.int .u8)) := by
    obtain ⟨h2, h3⟩ := HO.out
    refine ⟨h2, ?_⟩
    rcases h3 with h3 | ⟨d, cap, cur, e, q2, q3, q4⟩
    · exact .inl h3
    · exact .inr ⟨d, cap, cur, e, q2, (HK2.out.block d (Array.getElem?_eq_some_iff.1 q3).1 (fun e => by have := HW1.out.box.lt; omega)).trans q3, q4⟩
  refine ⟨rfl, ⟨_, HB2.out, HW1.out.low, World.ownsRowF_of (ownsRow_weak hok HW1.out.bel.size), Nat.le_refl _, fun x hx => ?_, ((Ke.below (fun i => w0.heap.size ≤ i) hbw).trans (HK2.out.mono (fun i _ e => by subst e; exact HW1.out.low))).toBelow (fun i hi e => absurd hi (Nat.not_lt.2 e))⟩, HK.out.trans (fun d cs t ha ht hd => (ha.ke (Ke.ofGrown HG.out) (fun e => by cases e)).ke HK2.out hd)⟩
  have hx' : x ∈ (([79, 49] : List Int) ++ ([v % 256] : List Int)) := hx
  rcases List.mem_append.1 hx' with hx | hx
  · exact o1_byte.2 x hx
  · exact byte1 v x hx
set_option maxHeartbeats 1000000 in
theorem wname_first {b : Nat} (h : Wr1 w0 wr g b) (s : ByteArray) (hs : s.size ≤ 15) :
    Calls Try.prog 32 #[.pointer (some ⟨g, 0, none⟩), .string s] wr fun e w' => e = .returned (.tuple #[]) ∧ (∃ B', Wr w0 w' g (2 + (nameB s).length) B' ([79, 49] ++ nameB s)) ∧ Kept g wr w' := by
  have HW := Lib.hid h
  have s15 : (s.size : Int) ≤ 15 := by omega
  have HM2 : Hid ((([79, 49] : List Int) ++ [(s.size : Int) % 256]).length + s.size ≤ 140737488355328) := Lib.hid (by show 3 + s.size ≤ _; omega)
  have HM1 : Hid ((([79, 49] : List Int) ++ [(s.size : Int) % 256]).length + s.size ≤ maxLen) := Lib.hid (by have := HM2.out; unfold maxLen; omega)
  obtain ⟨ti, hti, hti0, hti1, hti2⟩ := info_parts info_u8
  have HT := Lib.hid (And.intro hti (And.intro hti0 (And.intro hti1 hti2)))
  clear hti hti0 hti1 hti2 h
  have f1 : True := trivial
  have f2 : True := trivial
  have f3 : True := trivial
  go_enter Try.func32, Try.ntmps32
  go_wp2_with (first | (have _f := f1; refine (wbyte_first HW.out s.size).mono ?_; rintro e w1 ⟨rfl, ⟨B1, hw⟩, hk⟩; have HW1 := Lib.hid hw; have HK1 := Lib.hid hk; have c0 := (hw.box.cell 0).trans (show _ = some B1 from rfl); clear hw hk _f f1) | (have _f := f2; refine Lib.wpList_append_own_stringF _ rfl (.tmp 12) (.tmp 13) 24 9 rfl w0.heap.size 5 ti Try.underlying24 Try.underlying9 HT.out.1 HT.out.2.1 HT.out.2.2.1 HT.out.2.2.2 B1 (([79, 49] : List Int) ++ [(s.size : Int) % 256]).length _ rfl HW1.out.own s rfl HM1.out HM2.out HW1.out.bel.size ?_; intro v' w2 own2 gr2 _; have HG := Lib.hid (HW1.out.grow (ys := bytesI s) (by rw [← strCells_bytes]; exact own2) gr2 (bytesI_len s) (bytesI_byte s)); have HS := Lib.hid (Sep.one HG.out.1); have hl : (([79, 49] : List Int) ++ [(s.size : Int) % 256]).length + s.size = 3 + s.size := rfl; rw [hl] at own2; obtain ⟨pa, pc, rfl⟩ := ownF_slice own2; clear own2 gr2 c0 hl _f f2) | (have _f := f3; refine store1_sep rfl 24 (.tmp 16) (.tmp 14) rfl HS.out 0 (old := #[B1]) (v := .slice pa (3 + s.size) pc) rfl rfl rfl rfl (by kernel_rfl) rfl ?_; intro w3 S2 k2 _; have HE := Lib.hid (HG.out.2 w3 (S2.at 0 rfl) k2); clear S2 k2 _f f3))
  go_end0
  have h1 := HE.out.1
  rw [List.append_assoc] at h1
  refine ⟨rfl, ⟨.slice pa (3 + s.size) pc, ?_⟩, HK1.out.trans HE.out.2⟩
  rw [nameB_len]
  refine h1.more ?_
  omega

end Go.Proofs.Yteagpjcflcahoaa
