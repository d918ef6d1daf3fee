/- The reader: what its box says; as a thing beside a call's own. -/
import Derived.Test.YtfnibpkojhgflaaFaceCodec
import Derived.Test.YtfnibpkojhgflaaFrCut
namespace Go.Proofs.Ytfnibpkojhgflaa
set_option linter.unusedVariables false
set_option linter.unusedSimpArgs false
open Go.RowKit

def stOf (bad : Bool) (l : List Int) : St := if bad then none else some l
def rdC (a : Option Addr) (l : List Int) (c : Nat) (bad : Bool) : Array Value := #[.slice a l.length c, .bool bad]
def Flat (a : Option Addr) : Prop := a = none ∨ ∃ b o, a = some ⟨b, o, none⟩
/-- what is left of bytes that lay in w0, in the box g. -/
def rdR (w0 : World) (g : Nat) (s : St) : Res := ⟨fun b => b = g, fun w => ∃ a c l bad, At w g (rdC a l c bad) 79 ∧ RdI .u8 w0 a c l ∧ Flat a ∧ s = stOf bad l,
  fun _ h ⟨a, c, l, bad, k, r⟩ => ⟨a, c, l, bad, (h g rfl).trans k, r⟩⟩
structure Rdr (w0 wr : World) (g : Nat) (s : St) : Prop where
  low : w0.heap.size ≤ g
  lt : g < wr.heap.size
  bel : Below w0.heap.size w0 wr
  at' : (rdR w0 g s).holds wr
variable {w0 wr w w' : World} {g : Nat} {s s' : St} {L : List Res} {b0 : Base}

theorem Mem.startG (w : World) (G : Nat → Prop) : Mem ⟨w, G⟩ w [] := ⟨Ke.refl _ _, fun _ h => (by cases h), List.Pairwise.nil⟩
theorem Rdr.mem (h : Rdr w0 wr g s) : Mem ⟨wr, (· = g)⟩ wr [rdR w0 g s] := by
  refine ⟨Ke.refl _ _, fun r hr => ?_, List.pairwise_singleton _ _⟩
  obtain rfl := List.mem_singleton.1 hr
  exact ⟨h.at', fun b hb => ⟨.inr hb, by cases hb; exact h.lt⟩⟩
theorem Mem.rdOpen (M : Mem b0 w L) (i : Nat) (hi : L[i]? = some (rdR w0 g s)) : ∃ a c l bad, Mem b0 w (L.set i (bx g (rdC a l c bad) 79)) ∧ RdI .u8 w0 a c l ∧ Flat a ∧ s = stOf bad l := by
  obtain ⟨a, c, l, bad, h1, h2, h3, h4⟩ : (rdR w0 g s).holds w := M.get i hi
  exact ⟨a, c, l, bad, M.upd i hi (Ke.refl _ _) h1 (fun b hb => ⟨.inl hb, M.lt i hi (by exact hb)⟩), h2, h3, h4⟩
theorem Mem.rdClose (M : Mem b0 w L) (i : Nat) {a : Option Addr} {c : Nat} {l : List Int} {bad : Bool} (hi : L[i]? = some (bx g (rdC a l c bad) 79)) (hr : RdI .u8 w0 a c l) (hf : Flat a) (hs : s = stOf bad l) : Mem b0 w (L.set i (rdR w0 g s)) :=
  M.upd i hi (Ke.refl _ _) ⟨a, c, l, bad, M.get i hi, hr, hf, hs⟩ (fun b hb => ⟨.inl hb, M.lt i hi hb⟩)
theorem bel_keg (hb : Below w0.heap.size w0 wr) (hl : w0.heap.size ≤ g) (k : Ke (· = g) wr w) : Below w0.heap.size w0 w := bel_keW hb k (fun i e => by subst e; exact hl)
/-- the reader as it is now. -/
theorem Rdr.now (h : Rdr w0 wr g s) (M : Mem ⟨wr, (· = g)⟩ w L) (i : Nat) (hi : L[i]? = some (rdR w0 g s')) : Rdr w0 w g s' :=
  ⟨h.low, M.lt i hi rfl, bel_keg h.bel h.low M.ke, M.get i hi⟩
theorem Rdr.done (h : Rdr w0 wr g s) (M : Mem ⟨wr, (· = g)⟩ w L) (i : Nat) {a : Option Addr} {c : Nat} {l : List Int} {bad : Bool} (hi : L[i]? = some (bx g (rdC a l c bad) 79)) (hr : RdI .u8 w0 a c l) (hf : Flat a) (hs : s' = stOf bad l) : Rdr w0 w g s' :=
  ⟨h.low, M.lt i hi rfl, bel_keg h.bel h.low M.ke, a, c, l, bad, M.get i hi, hr, hf, hs⟩
/-- behind one of the reader's methods. -/
theorem Mem.rdr (M : Mem b0 w L) (i : Nat) (hi : L[i]? = some (rdR w0 g s)) (hr : Rdr w0 w' g s') (k : Ke (· = g) w w') : Mem b0 w' (L.set i (rdR w0 g s')) :=
  M.upd i hi k hr.at' (fun b hb => ⟨.inl hb, by cases hb; exact hr.lt⟩)
/-- .. that made something new. -/
theorem Mem.rdrNew (M : Mem b0 w L) (i : Nat) (hi : L[i]? = some (rdR w0 g s)) (hr : Rdr w0 w' g s') (k : Ke (· = g) w w') {r : Res} (h : r.holds w') (hf : ∀ b, r.foot b → w.heap.size ≤ b ∧ b < w'.heap.size) : Mem b0 w' (r :: L.set i (rdR w0 g s')) := by
  have M' := M.rdr i hi hr k
  refine ⟨M'.ke, fun q hq => ?_, List.Pairwise.cons (fun q hq b hb hq' => ?_) M'.nd⟩
  · rcases List.mem_cons.1 hq with rfl | hq
    · exact ⟨h, fun b hb => ⟨.inl (Nat.le_trans M.ke.size (hf b hb).1), (hf b hb).2⟩⟩
    · exact M'.own q hq
  · have h1 := (hf b hb).1
    obtain ⟨j, hj⟩ := List.mem_iff_getElem?.1 hq
    rw [List.getElem?_set] at hj
    split at hj
    · rename_i e
      split at hj
      · obtain rfl := Option.some.inj hj
        have := M.lt i hi hq'; omega
      · cases hj
    · have := M.lt j hj hq'; omega

theorem Rdr.bytes (h : Rdr w0 wr g s) {l : List Int} (hs : s = some l) : ∀ x ∈ l, 0 ≤ x ∧ x < 256 := by
  obtain ⟨a, c, l', bad, _, hr, _, h4⟩ := h.at'
  rw [hs] at h4
  cases bad with
  | true => cases h4
  | false => obtain rfl := Option.some.inj h4; exact fun x hx => bd_u8 (hr.bd x hx)
theorem rSome_bytes (h : Rdr w0 wr g s) (n i : Nat) : 0 ≤ (rSome n s).1.getD i 0 ∧ (rSome n s).1.getD i 0 < 256 := by
  cases s with
  | none => exact ⟨Int.le_refl _, by show (0 : Int) < 256; decide⟩
  | some l =>
    unfold rSome
    simp only
    split
    · exact ⟨Int.le_refl _, by show (0 : Int) < 256; decide⟩
    · have := h.bytes rfl
      rw [List.getD_eq_getElem?_getD]
      cases e : (l.take n)[i]? with
      | none => exact ⟨Int.le_refl _, by show (0 : Int) < 256; decide⟩
      | some x => exact this x (List.mem_of_mem_take (List.mem_of_getElem? e))
theorem rByte_bd (h : Rdr w0 wr g s) : 0 ≤ (rByte s).1 ∧ (rByte s).1 < 256 := rSome_bytes h 1 0
theorem rWord_bd (h : Rdr w0 wr g s) : 0 ≤ (rWord s).1 ∧ (rWord s).1 < 4294967296 := by
  have h0 := rSome_bytes h 4 0
  have h1 := rSome_bytes h 4 1
  have h2 := rSome_bytes h 4 2
  have h3 := rSome_bytes h 4 3
  show 0 ≤ word4 _ ∧ word4 _ < _
  unfold word4
  omega
theorem rSome_few (n : Nat) {bad : Bool} {l : List Int} (h : bad = true ∨ l.length < n) : rSome n (stOf bad l) = ([], none) := by
  unfold stOf
  cases bad with
  | true => rfl
  | false => show (if l.length < n then _ else _) = _; rw [if_pos (h.resolve_left (by decide))]
theorem rSome_much (n : Nat) {l : List Int} (h : n ≤ l.length) : rSome n (stOf false l) = (l.take n, some (l.drop n)) := by
  show (if l.length < n then _ else _) = _
  rw [if_neg (by omega)]
/-- 'l[:n]', 'l[n:]', of what is left. -/
theorem rd_take {a : Option Addr} {c : Nat} {l : List Int} (h : RdI .u8 w0 a c l) (n : Nat) (hn : n ≤ l.length) : ∀ {b o}, a = some ⟨b, o, none⟩ → RdI .u8 w0 a c (l.take n) ∧ (l.take n).length = n := by
  rintro b o rfl; exact h.take n hn
theorem rd_at {b o c : Nat} {l : List Int} (h : RdI .u8 w0 (some ⟨b, o, none⟩) c l) : (0 < l.length → b < w0.heap.size) ∧ ∀ i, i < l.length → w0.cell? ⟨b, o + i, none⟩ = some (.int .u8 (l.getD i 0)) := by
  obtain ⟨b', o', h1, h2⟩ := h.cells
  refine ⟨fun h0 => ?_, fun i hi => ?_⟩
  · obtain ⟨h3, h4⟩ := h1 h0
    simp only [Option.some.injEq, Addr.mk.injEq] at h3
    obtain ⟨rfl, _⟩ := h3; exact h4
  · obtain ⟨h3, _⟩ := h1 (by omega)
    simp only [Option.some.injEq, Addr.mk.injEq, and_true] at h3
    obtain ⟨rfl, rfl⟩ := h3; exact h2 i hi
theorem Rdr.cell (h : Rdr w0 wr g s) {b o : Nat} {v : Value} (hb : b < w0.heap.size) (hc : w0.cell? ⟨b, o, none⟩ = some v) : wr.cell? ⟨b, o, none⟩ = some v := (h.bel.cell (p := ⟨b, o, none⟩) hb).trans hc
theorem byte_nat (h : Rdr w0 wr g s) : ∃ (n : Nat) (s' : St), rByte s = ((n : Int), s') ∧ n < 256 := by
  obtain ⟨h1, h2⟩ := rByte_bd h
  exact ⟨(rByte s).1.toNat, (rByte s).2, by rw [Int.toNat_of_nonneg h1], by omega⟩
theorem word_nat (h : Rdr w0 wr g s) : ∃ (n : Nat) (s' : St), rWord s = ((n : Int), s') ∧ n < 4294967296 := by
  obtain ⟨h1, h2⟩ := rWord_bd h
  exact ⟨(rWord s).1.toNat, (rWord s).2, by rw [Int.toNat_of_nonneg h1], by omega⟩
theorem num_nat (h : Rdr w0 wr g s) (m : Int) (h0 : 0 ≤ m) : ∃ (n : Nat) (s' : St), rNum m s = ((n : Int), s') ∧ (n : Int) ≤ m := by
  obtain ⟨n, s', e, hn⟩ := word_nat h
  unfold rNum rCount
  rw [e]
  by_cases hm : m < n
  · exact ⟨0, none, by simp only [if_pos hm]; rfl, by omega⟩
  · exact ⟨n, s', by simp only [if_neg hm], by omega⟩
theorem some_list (n : Nat) (s : St) : ∃ (l : List Int) (s' : St), rSome n s = (l, s') := ⟨_, _, rfl⟩
def partW (x0 x1 x2 x3 : Int) : Nat → Int
  | 0 => 0
  | 1 => 0 + x0 * 2 ^ 0
  | 2 => 0 + x0 * 2 ^ 0 + x1 * 2 ^ 8
  | 3 => 0 + x0 * 2 ^ 0 + x1 * 2 ^ 8 + x2 * 2 ^ 16
  | _ => 0 + x0 * 2 ^ 0 + x1 * 2 ^ 8 + x2 * 2 ^ 16 + x3 * 2 ^ 24
theorem partW_all (x0 x1 x2 x3 : Int) {j : Nat} (h : 4 ≤ j) : partW x0 x1 x2 x3 j = word4 [x0, x1, x2, x3] := by
  obtain ⟨k, rfl⟩ : ∃ k, j = k + 4 := ⟨j - 4, by omega⟩
  show _ = x0 + 256 * x1 + 65536 * x2 + 16777216 * x3
  simp only [partW]
  omega
theorem list4 {l : List Int} (h : l.length = 4) : ∃ a b c d, l = [a, b, c, d] := by
  match l, h with
  | [a, b, c, d], _ => exact ⟨a, b, c, d, rfl⟩
theorem rNm_eq {n : Nat} {s1 s2 : St} {l : List Int} (h1 : rByte s = ((n : Int), s1)) (hn : n < 256) (h2 : rSome n s1 = (l, s2)) : rNm s = (strL l, s2) := by
  unfold rNm rName rCount
  rw [h1]
  simp only [if_neg (show ¬ (255 : Int) < n by omega), Int.toNat_natCast]
  rw [h2]
/-! ### what is read lies within bounds, whatever the bytes -/
def SB (s : St) : Prop := ∀ l, s = some l → ∀ x ∈ l, isByte x
theorem Rdr.sb (h : Rdr w0 wr g s) : SB s := fun l e x hx => h.bytes e x hx
theorem sb_some {n : Nat} (h : SB s) : (∀ x ∈ (rSome n s).1, isByte x) ∧ (rSome n s).1.length ≤ n ∧ SB (rSome n s).2 := by
  cases s with
  | none => exact ⟨fun x hx => (by cases hx), Nat.zero_le _, fun l e => by cases e⟩
  | some b =>
    unfold rSome
    simp only
    split
    · exact ⟨fun x hx => (by cases hx), Nat.zero_le _, fun l e => by cases e⟩
    · exact ⟨fun x hx => h b rfl x (List.mem_of_mem_take hx), by rw [List.length_take]; omega, fun l e x hx => by obtain rfl := Option.some.inj e; exact h b rfl x (List.mem_of_mem_drop hx)⟩
theorem getD_byte {l : List Int} (h : ∀ x ∈ l, isByte x) (i : Nat) : isByte (l.getD i 0) := by
  rw [List.getD_eq_getElem?_getD]
  cases e : l[i]? with
  | none => exact ⟨Int.le_refl _, by show (0 : Int) < 256; decide⟩
  | some x => exact h x (List.mem_of_getElem? e)
theorem sb_byte (h : SB s) : isByte (rByte s).1 ∧ SB (rByte s).2 := ⟨getD_byte (sb_some (n := 1) h).1 0, (sb_some (n := 1) h).2.2⟩
theorem sb_word (h : SB s) : (0 ≤ (rWord s).1 ∧ (rWord s).1 < 4294967296) ∧ SB (rWord s).2 := by
  obtain ⟨h1, _, h2⟩ := sb_some (n := 4) h
  have a0 := getD_byte h1 0
  have a1 := getD_byte h1 1
  have a2 := getD_byte h1 2
  have a3 := getD_byte h1 3
  refine ⟨?_, h2⟩
  show 0 ≤ word4 _ ∧ word4 _ < _
  unfold word4 isByte at *
  omega
theorem sb_num (m : Int) (h0 : 0 ≤ m) (h : SB s) : (0 ≤ (rNum m s).1 ∧ (rNum m s).1 ≤ m) ∧ SB (rNum m s).2 := by
  obtain ⟨h1, h2⟩ := sb_word h
  unfold rNum rCount
  split
  · exact ⟨⟨Int.le_refl _, h0⟩, fun l e => by cases e⟩
  · exact ⟨⟨h1.1, by omega⟩, h2⟩
theorem sb_nm (h : SB s) : (rNm s).1.size ≤ 255 ∧ SB (rNm s).2 := by
  obtain ⟨⟨h1, h2⟩, h3⟩ := sb_byte h
  unfold rNm rName rCount
  rw [if_neg (show ¬ 255 < (rByte s).1 by omega)]
  obtain ⟨_, q2, q3⟩ := sb_some (n := (rByte s).1.toNat) h3
  refine ⟨?_, q3⟩
  rw [strL_size]
  omega
theorem sb_ref (h : SB s) : refIn (rRef s).1 ∧ SB (rRef s).2 := by
  obtain ⟨h1, h2⟩ := sb_byte h
  obtain ⟨h3, h4⟩ := sb_byte h2
  exact ⟨⟨h1, h3⟩, h4⟩
theorem sb_loop {α : Type} {f : St → α × St} {ok : α → Prop} (hf : ∀ s, SB s → ok (f s).1 ∧ SB (f s).2) : ∀ (n : Nat) {s : St}, SB s → (∀ x ∈ (rLoop f n s).1, ok x) ∧ SB (rLoop f n s).2
  | 0, s, h => ⟨fun x hx => (by cases hx), h⟩
  | n + 1, s, h => by
    obtain ⟨h1, h2⟩ := hf s h
    obtain ⟨h3, h4⟩ := sb_loop hf n h2
    refine ⟨fun x hx => ?_, h4⟩
    rcases List.mem_cons.1 hx with rfl | hx
    · exact h1
    · exact h3 x hx
theorem sb_many {α : Type} {f : St → α × St} {ok : α → Prop} (hf : ∀ s, SB s → ok (f s).1 ∧ SB (f s).2) (h : SB s) : (∀ x ∈ (rMany f s).1, ok x) ∧ SB (rMany f s).2 := sb_loop hf _ (sb_byte h).2
/-- as a walk's reading wants it. -/
def fldOk8 (x : Fld) : Prop := x.name.size ≤ 255 ∧ (0 ≤ x.off ∧ x.off ≤ 262144) ∧ refIn x.base
theorem sb_fld (s : St) (h : SB s) : fldOk8 (rFld s).1 ∧ SB (rFld s).2 := by
  obtain ⟨h1, h2⟩ := sb_nm h
  obtain ⟨h3, h4⟩ := sb_num 262144 (by decide) h2
  obtain ⟨h5, h6⟩ := sb_ref h4
  exact ⟨⟨h1, h3, h5⟩, h6⟩
theorem sb_imp (s : St) (h : SB s) : impIn (rImp8 s).1 ∧ SB (rImp8 s).2 := by
  obtain ⟨h1, h2⟩ := sb_nm h
  obtain ⟨h3, h4⟩ := sb_word h2
  exact ⟨⟨by show ((rNm s).1.size : Int) ≤ 255; omega, h3.1, h3.2⟩, h4⟩
theorem sb_prm (s : St) (h : SB s) : refIn (rPrm s).1.base ∧ SB (rPrm s).2 := by
  obtain ⟨h1, h2⟩ := sb_byte h
  have h3 : SB (rVar s).2 := by
    unfold rVar
    split
    · exact fun l e => by cases e
    · exact h2
  exact sb_ref h3
def typOk8 (t : TD) : Prop := isByte t.form ∧ (0 ≤ t.len ∧ t.len ≤ 65535) ∧ (0 ≤ t.size ∧ t.size ≤ 262144) ∧ refIn t.base ∧ ∀ x ∈ t.fields, fldOk8 x
theorem ref00 : refIn ⟨0, 0⟩ := ⟨⟨Int.le_refl _, by show (0 : Int) < 256; decide⟩, Int.le_refl _, by show (0 : Int) < 256; decide⟩
theorem sb_typ (s : St) (h : SB s) : typOk8 (rTyp s).1 ∧ SB (rTyp s).2 := by
  obtain ⟨h1, h2⟩ := sb_byte h
  have z : (0 : Int) ≤ 0 := Int.le_refl _
  have key : ((0 ≤ (rBody8 (rByte s).1 (rByte s).2).1.len ∧ (rBody8 (rByte s).1 (rByte s).2).1.len ≤ 65535) ∧ (0 ≤ (rBody8 (rByte s).1 (rByte s).2).1.size ∧ (rBody8 (rByte s).1 (rByte s).2).1.size ≤ 262144) ∧ refIn (rBody8 (rByte s).1 (rByte s).2).1.base ∧ ∀ x ∈ (rBody8 (rByte s).1 (rByte s).2).1.fields, fldOk8 x) ∧ SB (rBody8 (rByte s).1 (rByte s).2).2 := by
    generalize (rByte s).2 = t at h2
    unfold rBody8
    split
    · obtain ⟨a1, a2⟩ := sb_num 262144 (by decide) h2
      obtain ⟨a3, a4⟩ := sb_many sb_fld a2
      exact ⟨⟨⟨z, show (0 : Int) ≤ 65535 by decide⟩, a1, ref00, a3⟩, a4⟩
    · split
      · obtain ⟨a1, a2⟩ := sb_num 65535 (by decide) h2
        obtain ⟨a3, a4⟩ := sb_num 262144 (by decide) a2
        obtain ⟨a5, a6⟩ := sb_ref a4
        exact ⟨⟨a1, a3, a5, fun x hx => by cases hx⟩, a6⟩
      · obtain ⟨a1, a2⟩ := sb_ref h2
        exact ⟨⟨⟨z, show (0 : Int) ≤ 65535 by decide⟩, ⟨z, show (0 : Int) ≤ 262144 by decide⟩, a1, fun x hx => by cases hx⟩, a2⟩
  exact ⟨⟨h1, key.1.1, key.1.2.1, key.1.2.2.1, key.1.2.2.2⟩, key.2⟩
def objOk8 (o : ODD) : Prop := isByte o.cls ∧ o.name.size ≤ 255 ∧ refIn o.base ∧ (0 ≤ o.value ∧ o.value < 4294967296) ∧ ∀ x ∈ o.params, refIn x.base
theorem sb_obj (s : St) (h : SB s) : objOk8 (rObj8 s).1 ∧ SB (rObj8 s).2 := by
  obtain ⟨h1, h2⟩ := sb_byte h
  obtain ⟨h3, h4⟩ := sb_nm h2
  obtain ⟨h5, h6⟩ := sb_ref h4
  have e : SB (rHead8 s).2 := h6
  have key : ((0 ≤ (rTail8 (rHead8 s).1.1 (rHead8 s).2).1.value ∧ (rTail8 (rHead8 s).1.1 (rHead8 s).2).1.value < 4294967296) ∧ ∀ x ∈ (rTail8 (rHead8 s).1.1 (rHead8 s).2).1.params, refIn x.base) ∧ SB (rTail8 (rHead8 s).1.1 (rHead8 s).2).2 := by
    generalize (rHead8 s).2 = t at e
    unfold rTail8
    split
    · obtain ⟨a1, a2⟩ := sb_word e
      exact ⟨⟨a1, fun x hx => by cases hx⟩, a2⟩
    · split
      · obtain ⟨a1, a2⟩ := sb_byte e
        obtain ⟨a3, a4⟩ := sb_many (ok := fun p : Prm => refIn p.base) sb_prm a2
        exact ⟨⟨⟨a1.1, by show (rByte t).1 < _; have := a1.2; omega⟩, a3⟩, a4⟩
      · exact ⟨⟨⟨Int.le_refl _, by show (0 : Int) < _; decide⟩, fun x hx => by cases hx⟩, e⟩
  exact ⟨⟨h1, h3, h5, key.1.1, key.1.2⟩, key.2⟩
theorem rLoop_snoc {α : Type} (f : St → α × St) : ∀ (n : Nat) (s : St) {l : List α} {s1 s2 : St} {x : α}, rLoop f n s = (l, s1) → f s1 = (x, s2) → rLoop f (n + 1) s = (l ++ [x], s2)
  | 0, s, l, s1, s2, x, h, hx => by
    obtain ⟨rfl, rfl⟩ := Prod.mk.inj h
    show ((f s).1 :: [], (f s).2) = _
    rw [hx]; rfl
  | n + 1, s, l, s1, s2, x, h, hx => by
    obtain ⟨rfl, rfl⟩ := Prod.mk.inj h
    have := rLoop_snoc f n (f s).2 (l := (rLoop f n (f s).2).1) (s1 := (rLoop f n (f s).2).2) rfl hx
    show ((f s).1 :: (rLoop f (n + 1) (f s).2).1, (rLoop f (n + 1) (f s).2).2) = _
    rw [this]; rfl
end Go.Proofs.Ytfnibpkojhgflaa
