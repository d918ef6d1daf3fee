/- Several texts in one: ObjData, ObjBytes, ObjMay0, ObjImps, ObjHas, ObjImps2, ObjIn, ObjRefMay, ObjRefMay2, ObjRefW. -/
import Derived.Test.YtfnibpkojhgflaaObjNames
import Derived.Test.YtfnibpkojhgflaaLibB
import Derived.Test.YtfnibpkojhgflaaLibA
import Derived.StillTailTactics
import Derived.IntWalk
import Derived.Test.YtfnibpkojhgflaaLibC
import Derived.Lib.AppendStr
namespace Go.Proofs.Ytfnibpkojhgflaa

section
set_option linter.unusedVariables false
set_option linter.unusedSimpArgs false
open Go.RowKit

structure Imp where
  name : ByteArray
  key : Int
def Imp.cells (x : Imp) : List Value := [.string x.name, .int .u32 x.key]
def impD : Dat Imp := ⟨2, Imp.cells, fun _ x => x.name.size ≤ maxLen ∧ 0 ≤ x.key ∧ x.key < 4294967296, by decide, fun _ => rfl, fun h _ _ => h⟩

structure Fix where
  place : Int
  mod : Int
  entry : Int
def i64In (x : Int) : Prop := -9223372036854775808 ≤ x ∧ x ≤ 9223372036854775807
def Fix.cells (x : Fix) : List Value := [.int .i64 x.place, .int .i64 x.mod, .int .i64 x.entry]
def fixD : Dat Fix := ⟨3, Fix.cells, fun _ x => i64In x.place ∧ i64In x.mod ∧ i64In x.entry, by decide, fun _ => rfl, fun h _ _ => h⟩

structure Obj where
  name : ByteArray
  key : Int
  imps : Sl Imp
  vars : Int
  text : Sl Int
  code : Sl Int
  entries : Sl Int
  fixups : Sl Fix
def Obj.cells (o : Obj) : Array Value := #[.string o.name, .int .u32 o.key, o.imps.val, .int .i64 o.vars, o.text.val, o.code.val, o.entries.val, o.fixups.val]
def Obj.val (o : Obj) : Value := .agg o.cells
structure Obj.Rd (w : World) (o : Obj) : Prop where
  name : o.name.size ≤ maxLen
  key : 0 ≤ o.key ∧ o.key < 4294967296
  imps : Rows impD w o.imps
  vars : i64In o.vars
  text : Rows (intD .u8) w o.text
  code : Rows (intD .u32) w o.code
  entries : Rows (intD .i64) w o.entries
  fixups : Rows fixD w o.fixups
theorem Obj.Rd.below {w w' : World} {o : Obj} {B : Nat} (h : o.Rd w) (hb : Below B w w') (hB : w.heap.size ≤ B) : o.Rd w' :=
  ⟨h.name, h.key, h.imps.below hb hB, h.vars, h.text.below hb hB, h.code.below hb hB, h.entries.below hb hB, h.fixups.below hb hB⟩
theorem Obj.Rd.bel {w w' : World} {o : Obj} (h : o.Rd w) (hb : Below w.heap.size w w') : o.Rd w' := h.below hb (Nat.le_refl _)

/-- imports that may be, behind names that were seen. -/
def impsOk (name : ByteArray) : List ByteArray → List Imp → Bool
  | _, [] => true
  | seen, x :: r => mayName x.name && !decide (x.name = name) && !seen.any (fun s => decide (s = x.name)) && impsOk name (seen ++ [x.name]) r
def mayImps (name : ByteArray) (l : List Imp) : Bool := impsOk name [] l && mayName name && decide (l.length ≤ 12)

/-- the loop over the imports stands at a place. -/
def ImpTo (name : ByteArray) (l : List Imp) (k : Nat) : Prop := impsOk name [] l = impsOk name ((l.take k).map Imp.name) (l.drop k)
theorem ImpTo.start (name : ByteArray) (l : List Imp) : ImpTo name l 0 := rfl
theorem drop_get {α : Type} {l : List α} {k : Nat} {x : α} (h : l[k]? = some x) : l.drop k = x :: l.drop (k + 1) := by
  obtain ⟨hk, rfl⟩ := List.getElem?_eq_some_iff.1 h
  exact List.drop_eq_getElem_cons hk
theorem take_get {α : Type} {l : List α} {k : Nat} {x : α} (h : l[k]? = some x) : l.take (k + 1) = l.take k ++ [x] := by
  obtain ⟨hk, rfl⟩ := List.getElem?_eq_some_iff.1 h
  exact List.take_succ_eq_append_getElem hk
theorem ImpTo.eq {name : ByteArray} {l : List Imp} {k : Nat} (h : ImpTo name l k) {x : Imp} (hx : l[k]? = some x) :
    impsOk name [] l = (mayName x.name && !decide (x.name = name) && !((l.take k).map Imp.name).any (fun s => decide (s = x.name)) && impsOk name ((l.take (k + 1)).map Imp.name) (l.drop (k + 1))) := by
  unfold ImpTo at h
  rw [h, drop_get hx, take_get hx, List.map_append]; rfl
/-- one of the first names is a name. -/
theorem seen_iff {l : List Imp} {k : Nat} {s : ByteArray} : ((l.take k).map Imp.name).any (fun x => decide (x = s)) = true ↔ ∃ j x, j < k ∧ l[j]? = some x ∧ x.name = s := by
  rw [List.any_map, List.any_eq_true]
  constructor
  · rintro ⟨x, hx, h⟩
    obtain ⟨j, hj⟩ := List.mem_iff_getElem?.1 hx
    rw [List.getElem?_take] at hj
    split at hj
    · exact ⟨j, x, by assumption, hj, by simpa using h⟩
    · cases hj
  · rintro ⟨j, x, hj, hx, rfl⟩
    refine ⟨x, List.mem_iff_getElem?.2 ⟨j, ?_⟩, by simp⟩
    rw [List.getElem?_take, if_pos hj]; exact hx
theorem ImpTo.next {name : ByteArray} {l : List Imp} {k : Nat} (h : ImpTo name l k) {x : Imp} (hx : l[k]? = some x) (h1 : mayName x.name = true) (h2 : x.name ≠ name) (h3 : ∀ j y, j < k → l[j]? = some y → y.name ≠ x.name) : ImpTo name l (k + 1) := by
  unfold ImpTo
  have h4 : ((l.take k).map Imp.name).any (fun s => decide (s = x.name)) = false := Bool.eq_false_iff.2 (fun hm => by obtain ⟨j, y, hj, hy, e⟩ := seen_iff.1 hm; exact h3 j y hj hy e)
  rw [h.eq hx, h1, decide_eq_false h2, h4]; simp
theorem ImpTo.bad1 {name : ByteArray} {l : List Imp} {k : Nat} (h : ImpTo name l k) {x : Imp} (hx : l[k]? = some x) (h1 : mayName x.name = false) : mayImps name l = false := by
  unfold mayImps; rw [h.eq hx, h1]; simp
theorem ImpTo.bad2 {name : ByteArray} {l : List Imp} {k : Nat} (h : ImpTo name l k) {x : Imp} (hx : l[k]? = some x) (h1 : x.name = name) : mayImps name l = false := by
  unfold mayImps; rw [h.eq hx, decide_eq_true h1]; simp
theorem ImpTo.bad3 {name : ByteArray} {l : List Imp} {k : Nat} (h : ImpTo name l k) {x : Imp} (hx : l[k]? = some x) {j : Nat} {y : Imp} (hj : j < k) (hy : l[j]? = some y) (h1 : y.name = x.name) : mayImps name l = false := by
  unfold mayImps; rw [h.eq hx, seen_iff.2 ⟨j, y, hj, hy, h1⟩]; simp
theorem ImpTo.done {name : ByteArray} {l : List Imp} {k : Nat} (h : ImpTo name l k) (hk : l.length ≤ k) : mayImps name l = (mayName name && decide (l.length ≤ 12)) := by
  unfold ImpTo at h
  unfold mayImps; rw [h, List.drop_of_length_le hk]; simp [impsOk]

theorem imp_cells {w : World} {b o : Nat} {l : List Imp} (h : RowAt impD w b o l) {i : Nat} {x : Imp} (hx : l[i]? = some x) : w.cell? ⟨b, o + i * 2, none⟩ = some (.string x.name) ∧ w.cell? ⟨b, o + i * 2 + 1, none⟩ = some (.int .u32 x.key) :=
  ⟨h i x hx 0 _ rfl, h i x hx 1 _ rfl⟩
end

section
set_option linter.unusedVariables false
set_option linter.unusedSimpArgs false

def isByte (x : Int) : Prop := 0 ≤ x ∧ x < 256
def wordB (n : Int) : List Int := [n % 256, n / 256 % 256, n / 65536 % 256, n / 16777216 % 256]
def bytesI (s : ByteArray) : List Int := s.data.toList.map fun c => (c.toNat : Int)
def nameB (s : ByteArray) : List Int := (s.size : Int) % 256 :: bytesI s
def strL (l : List Int) : ByteArray := ⟨(l.map fun x => UInt8.ofNat x.toNat).toArray⟩

theorem bytesI_len (s : ByteArray) : (bytesI s).length = s.size := by unfold bytesI; rw [List.length_map]; rfl
theorem bytesI_byte (s : ByteArray) : ∀ x ∈ bytesI s, isByte x := by
  intro x hx
  unfold bytesI at hx
  rw [List.mem_map] at hx
  obtain ⟨c, _, rfl⟩ := hx
  have := c.toNat_lt
  exact ⟨by omega, by omega⟩
theorem strL_bytesI (s : ByteArray) : strL (bytesI s) = s := by
  unfold strL bytesI
  rw [List.map_map]
  apply ByteArray.ext
  show (List.map _ s.data.toList).toArray = s.data
  rw [show ((fun x : Int => UInt8.ofNat x.toNat) ∘ fun c : UInt8 => (c.toNat : Int)) = id from by
    funext c
    show UInt8.ofNat ((c.toNat : Int)).toNat = c
    rw [Int.toNat_natCast]; exact UInt8.ofNat_toNat]
  simp
theorem bytesI_strL {l : List Int} (h : ∀ x ∈ l, isByte x) : bytesI (strL l) = l := by
  unfold strL bytesI
  show List.map _ (List.map _ l).toArray.toList = l
  rw [List.toList_toArray, List.map_map]
  conv => rhs; rw [← List.map_id l]
  apply List.map_congr_left
  intro x hx
  obtain ⟨h1, h2⟩ := h x hx
  show ((UInt8.ofNat x.toNat).toNat : Int) = x
  rw [UInt8.toNat_ofNat_of_lt' (by show x.toNat < 256; omega)]
  omega
theorem strL_size (l : List Int) : (strL l).size = l.length := by unfold strL; show (List.map _ l).toArray.size = _; simp
theorem bytesI_inj {s t : ByteArray} (h : bytesI s = bytesI t) : s = t := by rw [← strL_bytesI s, h, strL_bytesI]

/-! ### a reader: what is left; none: there was too little -/
abbrev St := Option (List Int)
def rSome (n : Nat) : St → List Int × St
  | none => ([], none)
  | some b => if b.length < n then ([], none) else (b.take n, some (b.drop n))
def rByte (s : St) : Int × St := ((rSome 1 s).1.getD 0 0, (rSome 1 s).2)
def word4 (l : List Int) : Int := l.getD 0 0 + 256 * l.getD 1 0 + 65536 * l.getD 2 0 + 16777216 * l.getD 3 0
def rWord (s : St) : Int × St := (word4 (rSome 4 s).1, (rSome 4 s).2)
def rCount (most : Int) (r : Int × St) : Int × St := if most < r.1 then (0, none) else r
def rName (most : Int) (s : St) : ByteArray × St := (strL (rSome (rCount most (rByte s)).1.toNat (rCount most (rByte s)).2).1, (rSome (rCount most (rByte s)).1.toNat (rCount most (rByte s)).2).2)
def rLoop {α : Type} (f : St → α × St) : Nat → St → List α × St
  | 0, s => ([], s)
  | n + 1, s => ((f s).1 :: (rLoop f n (f s).2).1, (rLoop f n (f s).2).2)

/-- a reader and its writer. -/
structure Reads {α : Type} (f : St → α × St) (enc : α → List Int) (ok : α → Prop) : Prop where
  full : ∀ x r, ok x → f (some (enc x ++ r)) = (x, some r)
  sound : ∀ b x r, (∀ y ∈ b, isByte y) → f (some b) = (x, some r) → b = enc x ++ r ∧ ok x
  bad : (f none).2 = none

theorem Reads.from {α : Type} {f : St → α × St} {enc : α → List Int} {ok : α → Prop} (h : Reads f enc ok) {s : St} {x : α} {r : List Int} (e : f s = (x, some r)) : ∃ b, s = some b := by
  cases s with
  | some b => exact ⟨b, rfl⟩
  | none => have := h.bad; rw [e] at this; cases this

theorem rSome_full (l r : List Int) (n : Nat) (hn : l.length = n) : rSome n (some (l ++ r)) = (l, some r) := by
  subst hn
  unfold rSome
  simp
theorem rSome_sound {b l r : List Int} {n : Nat} (h : rSome n (some b) = (l, some r)) : b = l ++ r ∧ l.length = n := by
  unfold rSome at h
  simp only at h
  split at h
  · cases h
  · rename_i hlt
    simp only [Prod.mk.injEq, Option.some.injEq] at h
    obtain ⟨rfl, rfl⟩ := h
    exact ⟨(List.take_append_drop n b).symm, by rw [List.length_take]; omega⟩
theorem rSome_bad (n : Nat) : rSome n none = ([], none) := rfl

theorem rByte_reads : Reads rByte (fun n => [n % 256]) isByte where
  full := by
    intro x r ⟨h1, h2⟩
    unfold rByte
    rw [rSome_full [x % 256] r 1 rfl]
    show (x % 256, some r) = _
    rw [Int.emod_eq_of_lt h1 h2]
  sound := by
    intro b x r hb h
    unfold rByte at h
    obtain ⟨l, s, hs⟩ : ∃ l s, rSome 1 (some b) = (l, s) := ⟨_, _, rfl⟩
    rw [hs] at h
    simp only [Prod.mk.injEq] at h
    obtain ⟨rfl, rfl⟩ := h
    obtain ⟨rfl, hl⟩ := rSome_sound hs
    match l, hl with
    | [y], _ =>
      have hy := hb y (by simp)
      show [y] ++ r = [y % 256] ++ r ∧ isByte y
      rw [Int.emod_eq_of_lt hy.1 hy.2]
      exact ⟨rfl, hy⟩
  bad := rfl

theorem wordB_len (n : Int) : (wordB n).length = 4 := rfl
theorem wordB_byte (n : Int) : ∀ x ∈ wordB n, isByte x := by
  intro x hx
  unfold wordB at hx
  simp only [List.mem_cons, List.not_mem_nil, or_false] at hx
  rcases hx with rfl | rfl | rfl | rfl <;> exact ⟨by omega, by omega⟩
theorem word4_wordB {n : Int} (h : 0 ≤ n ∧ n < 4294967296) : word4 (wordB n) = n := by
  unfold word4 wordB
  simp only [List.getD_cons_zero, List.getD_cons_succ]
  omega
theorem wordB_word4 {a b c d : Int} (ha : isByte a) (hb : isByte b) (hc : isByte c) (hd : isByte d) : wordB (word4 [a, b, c, d]) = [a, b, c, d] ∧ 0 ≤ word4 [a, b, c, d] ∧ word4 [a, b, c, d] < 4294967296 := by
  obtain ⟨a1, a2⟩ := ha
  obtain ⟨b1, b2⟩ := hb
  obtain ⟨c1, c2⟩ := hc
  obtain ⟨d1, d2⟩ := hd
  have e : word4 [a, b, c, d] = a + 256 * b + 65536 * c + 16777216 * d := rfl
  refine ⟨?_, by rw [e]; omega, by rw [e]; omega⟩
  rw [e]
  unfold wordB
  rw [show (a + 256 * b + 65536 * c + 16777216 * d) % 256 = a by omega, show (a + 256 * b + 65536 * c + 16777216 * d) / 256 % 256 = b by omega, show (a + 256 * b + 65536 * c + 16777216 * d) / 65536 % 256 = c by omega, show (a + 256 * b + 65536 * c + 16777216 * d) / 16777216 % 256 = d by omega]

theorem rWord_reads : Reads rWord wordB (fun n => 0 ≤ n ∧ n < 4294967296) where
  full := by
    intro x r hx
    unfold rWord
    rw [rSome_full (wordB x) r 4 rfl]
    show (word4 (wordB x), some r) = _
    rw [word4_wordB hx]
  sound := by
    intro b x r hb h
    unfold rWord at h
    obtain ⟨l, s, hs⟩ : ∃ l s, rSome 4 (some b) = (l, s) := ⟨_, _, rfl⟩
    rw [hs] at h
    simp only [Prod.mk.injEq] at h
    obtain ⟨rfl, rfl⟩ := h
    obtain ⟨rfl, hl⟩ := rSome_sound hs
    match l, hl with
    | [y1, y2, y3, y4], _ =>
      have := wordB_word4 (hb y1 (by simp)) (hb y2 (by simp)) (hb y3 (by simp)) (hb y4 (by simp))
      exact ⟨by rw [this.1], this.2⟩
  bad := rfl

theorem rCount_reads {f : St → Int × St} {enc : Int → List Int} {ok : Int → Prop} (h : Reads f enc ok) (most : Int) (hm : 0 ≤ most) : Reads (fun s => rCount most (f s)) enc (fun n => ok n ∧ n ≤ most) where
  full := by
    intro x r ⟨hx, hle⟩
    show rCount most (f (some (enc x ++ r))) = _
    rw [h.full x r hx]
    unfold rCount
    rw [if_neg (by show ¬ most < x; omega)]
  sound := by
    intro b x r hb e
    unfold rCount at e
    split at e
    · cases e
    · rename_i hlt
      obtain ⟨h1, h2⟩ := h.sound b x r hb e
      rw [e] at hlt
      exact ⟨h1, h2, Int.not_lt.1 hlt⟩
  bad := by
    show (rCount most (f none)).2 = none
    unfold rCount
    split
    · rfl
    · exact h.bad

theorem rName_reads (most : Int) (h0 : 0 ≤ most) (hm : most ≤ 255) : Reads (rName most) nameB (fun s => (s.size : Int) ≤ most) where
  full := by
    intro x r hx
    have h : rCount most (rByte (some (nameB x ++ r))) = ((x.size : Int), some (bytesI x ++ r)) := (rCount_reads rByte_reads most h0).full x.size (bytesI x ++ r) ⟨⟨by omega, by omega⟩, hx⟩
    unfold rName
    rw [h]
    simp only [Int.toNat_natCast]
    rw [rSome_full (bytesI x) r x.size (bytesI_len x)]
    simp only
    rw [strL_bytesI]
  sound := by
    intro b x r hb e
    unfold rName at e
    obtain ⟨n, s, hs⟩ : ∃ n s, rCount most (rByte (some b)) = (n, s) := ⟨_, _, rfl⟩
    rw [hs] at e
    simp only at e
    cases s with
    | none => rw [rSome_bad] at e; cases e
    | some c =>
      obtain ⟨h1, h2, h3⟩ := (rCount_reads rByte_reads most h0).sound b n c hb hs
      obtain ⟨l, t, ht⟩ : ∃ l t, rSome n.toNat (some c) = (l, t) := ⟨_, _, rfl⟩
      rw [ht] at e
      simp only [Prod.mk.injEq] at e
      obtain ⟨rfl, rfl⟩ := e
      obtain ⟨rfl, hl⟩ := rSome_sound ht
      have hbl : ∀ y ∈ l, isByte y := fun y hy => hb y (by rw [h1]; simp [hy])
      have hn := h2.1
      refine ⟨?_, by rw [strL_size]; omega⟩
      rw [h1]
      unfold nameB
      rw [bytesI_strL hbl, strL_size, show (l.length : Int) = n by omega]
      rfl
  bad := by
    unfold rName
    have : (rCount most (rByte none)).2 = none := (rCount_reads rByte_reads most h0).bad
    rw [this]
    rfl

theorem rLoop_reads {α : Type} {f : St → α × St} {enc : α → List Int} {ok : α → Prop} (h : Reads f enc ok) : ∀ n, Reads (rLoop f n) (fun l => l.flatMap enc) (fun l => l.length = n ∧ ∀ x ∈ l, ok x)
  | 0 => { full := by
             intro x r ⟨h1, _⟩
             obtain rfl := List.length_eq_zero_iff.1 h1
             rfl
           sound := by
             intro b x r _ e
             unfold rLoop at e
             simp only [Prod.mk.injEq, Option.some.injEq] at e
             obtain ⟨rfl, rfl⟩ := e
             exact ⟨rfl, rfl, fun x hx => by cases hx⟩
           bad := rfl }
  | n + 1 => { full := by
                 intro x r ⟨h1, h2⟩
                 match x, h1 with
                 | y :: l, h1 =>
                   rw [List.flatMap_cons, List.append_assoc]
                   unfold rLoop
                   rw [h.full y _ (h2 y (by simp))]
                   simp only
                   rw [(rLoop_reads h n).full l r ⟨by simpa using h1, fun z hz => h2 z (by simp [hz])⟩]
               sound := by
                 intro b x r hb e
                 unfold rLoop at e
                 obtain ⟨y, s, hs⟩ : ∃ y s, f (some b) = (y, s) := ⟨_, _, rfl⟩
                 rw [hs] at e
                 obtain ⟨l, t, ht⟩ : ∃ l t, rLoop f n s = (l, t) := ⟨_, _, rfl⟩
                 simp only at e
                 rw [ht] at e
                 simp only [Prod.mk.injEq] at e
                 obtain ⟨rfl, rfl⟩ := e
                 obtain ⟨c, rfl⟩ := (rLoop_reads h n).from ht
                 obtain ⟨rfl, h2⟩ := h.sound b y c hb hs
                 obtain ⟨rfl, h3, h4⟩ := (rLoop_reads h n).sound c l r (fun z hz => hb z (by simp [hz])) ht
                 refine ⟨by rw [List.flatMap_cons, List.append_assoc], by rw [List.length_cons, h3], fun z hz => ?_⟩
                 rcases List.mem_cons.1 hz with rfl | hz
                 · exact h2
                 · exact h4 z hz
               bad := by
                 unfold rLoop
                 show (rLoop f n (f none).2).2 = none
                 rw [h.bad]
                 exact (rLoop_reads h n).bad }

/-- two, one after the other. -/
theorem Reads.pair {α β : Type} {f : St → α × St} {g : St → β × St} {e1 : α → List Int} {e2 : β → List Int} {o1 : α → Prop} {o2 : β → Prop} (hf : Reads f e1 o1) (hg : Reads g e2 o2) :
    Reads (fun s => (((f s).1, (g (f s).2).1), (g (f s).2).2)) (fun x => e1 x.1 ++ e2 x.2) (fun x => o1 x.1 ∧ o2 x.2) where
  full := by
    intro x r ⟨h1, h2⟩
    try simp only
    rw [List.append_assoc, hf.full _ _ h1]
    simp only
    rw [hg.full _ _ h2]
  sound := by
    intro b x r hb e
    obtain ⟨y, s, hs⟩ : ∃ y s, f (some b) = (y, s) := ⟨_, _, rfl⟩
    try simp only at e
    rw [hs] at e
    obtain ⟨z, t, ht⟩ : ∃ z t, g s = (z, t) := ⟨_, _, rfl⟩
    simp only at e
    rw [ht] at e
    simp only [Prod.mk.injEq] at e
    obtain ⟨rfl, rfl⟩ := e
    obtain ⟨c, rfl⟩ := hg.from ht
    obtain ⟨rfl, h2⟩ := hf.sound b y c hb hs
    obtain ⟨rfl, h3⟩ := hg.sound c z r (fun u hu => hb u (by simp [hu])) ht
    exact ⟨by rw [List.append_assoc], h2, h3⟩
  bad := by
    show (g (f none).2).2 = none
    rw [hf.bad]
    exact hg.bad
/-- said otherwise. -/
theorem Reads.map {α β : Type} {f : St → α × St} {e1 : α → List Int} {o1 : α → Prop} (hf : Reads f e1 o1) (p : α → β) (q : β → α) (hq : ∀ y, p (q y) = y) (hp : ∀ x, q (p x) = x) :
    Reads (fun s => (p (f s).1, (f s).2)) (fun y => e1 (q y)) (fun y => o1 (q y)) where
  full := by
    intro x r h
    try simp only
    rw [hf.full _ _ h]
    simp only
    rw [hq]
  sound := by
    intro b x r hb e
    obtain ⟨y, s, hs⟩ : ∃ y s, f (some b) = (y, s) := ⟨_, _, rfl⟩
    try simp only at e
    rw [hs] at e
    simp only [Prod.mk.injEq] at e
    obtain ⟨rfl, rfl⟩ := e
    rw [hp]
    exact hf.sound b y r hb hs
  bad := hf.bad

/-- a list, its length ahead. -/
theorem Reads.counted {α : Type} {c : St → Int × St} {ec : Int → List Int} {oc : Int → Prop} (hc : Reads c ec oc) (h0 : ∀ n, oc n → 0 ≤ n) {f : Nat → St → α × St} {e : α → List Int} {ok : Nat → α → Prop} {len : α → Nat} (hf : ∀ n, Reads (f n) e (fun l => len l = n ∧ ok n l)) :
    Reads (fun s => f (c s).1.toNat (c s).2) (fun l => ec (len l) ++ e l) (fun l => oc (len l) ∧ ok (len l) l) where
  full := by
    intro x r ⟨h1, h2⟩
    try simp only
    rw [List.append_assoc, hc.full _ _ h1]
    simp only [Int.toNat_natCast]
    exact (hf _).full x r ⟨rfl, h2⟩
  sound := by
    intro b x r hb h
    obtain ⟨n, s, hs⟩ : ∃ n s, c (some b) = (n, s) := ⟨_, _, rfl⟩
    try simp only at h
    rw [hs] at h
    simp only at h
    obtain ⟨d, rfl⟩ := (hf n.toNat).from h
    obtain ⟨rfl, h2⟩ := hc.sound b n d hb hs
    obtain ⟨rfl, h3, h4⟩ := (hf n.toNat).sound d x r (fun u hu => hb u (by simp [hu])) h
    have := h0 n h2
    have e' : (len x : Int) = n := by omega
    rw [e', h3]
    exact ⟨by rw [List.append_assoc], h2, h4⟩
  bad := by
    show (f (c none).1.toNat (c none).2).2 = none
    rw [hc.bad]
    exact (hf _).bad
theorem rSome_reads (n : Nat) : Reads (rSome n) (fun l => l) (fun l => l.length = n ∧ ∀ x ∈ l, isByte x) where
  full := fun x r h => rSome_full x r n h.1
  sound := by
    intro b x r hb h
    obtain ⟨rfl, h2⟩ := rSome_sound h
    exact ⟨rfl, h2, fun y hy => hb y (by simp [hy])⟩
  bad := rfl
end

section
set_option linter.unusedVariables false
set_option linter.unusedSimpArgs false

/-- what an object is, wherever it lies. -/
structure OD where
  name : ByteArray
  key : Int
  imps : List Imp
  vars : Int
  text : List Int
  code : List Int
  entries : List Int
  fixups : List Fix
def Obj.d (o : Obj) : OD := ⟨o.name, o.key, o.imps.l, o.vars, o.text.l, o.code.l, o.entries.l, o.fixups.l⟩

def inN (n : Nat) (x : Int) : Bool := decide (0 ≤ x ∧ x < n)
def before (p : Option Int) (x : Int) : Bool := match p with
  | none => true
  | some y => decide (y < x)
def fixOk (n m : Nat) (p : Option Int) (f : Fix) : Bool :=
  decide (0 ≤ f.place ∧ f.place < n ∧ 0 ≤ f.entry ∧ f.entry ≤ 200 ∧ 0 ≤ f.mod ∧ f.mod ≤ m ∧ ¬ (f.entry = 0 ∧ f.place = n - 1) ∧ ¬ (0 < f.entry ∧ f.mod = 0) ∧ before p f.place = true)
def fixesOk (n m : Nat) : Option Int → List Fix → Bool
  | _, [] => true
  | p, f :: r => fixOk n m p f && fixesOk n m (some f.place) r
def sizesOk (o : OD) : Bool := decide (0 ≤ o.vars ∧ o.vars ≤ 262144 ∧ o.vars % 4 = 0 ∧ o.text.length ≤ 8192 ∧ (o.text.length : Int) % 4 = 0 ∧ o.vars + o.text.length ≤ 262144)
def countsOk (o : OD) : Bool := decide (o.code.length ≤ 16384 ∧ 1 ≤ o.entries.length ∧ o.entries.length ≤ 201 ∧ o.fixups.length ≤ 8192)
def mayObj (o : OD) : Bool := mayImps o.name o.imps && sizesOk o && countsOk o && o.entries.all (inN o.code.length) && fixesOk o.code.length o.imps.length none o.fixups

theorem may_imps {o : OD} (h : mayImps o.name o.imps = false) : mayObj o = false := by unfold mayObj; rw [h]; rfl
theorem may_sizes {o : OD} (h : sizesOk o = false) : mayObj o = false := by unfold mayObj; rw [h]; simp
theorem may_counts {o : OD} (h : countsOk o = false) : mayObj o = false := by unfold mayObj; rw [h]; simp
theorem may_entry {o : OD} {i : Nat} {x : Int} (hx : o.entries[i]? = some x) (h : inN o.code.length x = false) : mayObj o = false := by
  have : o.entries.all (inN o.code.length) = false := by
    rw [Bool.eq_false_iff]
    intro ha
    rw [List.all_eq_true] at ha
    rw [ha x (List.mem_of_getElem? hx)] at h
    cases h
  unfold mayObj; rw [this]; simp

/-- the place before the k-th fixup. -/
def prevF (l : List Fix) (k : Nat) : Option Int := if k = 0 then none else (l[k - 1]?).map Fix.place
def FixTo (n m : Nat) (l : List Fix) (k : Nat) : Prop := fixesOk n m none l = fixesOk n m (prevF l k) (l.drop k)
theorem FixTo.start (n m : Nat) (l : List Fix) : FixTo n m l 0 := rfl
theorem FixTo.eq {n m : Nat} {l : List Fix} {k : Nat} (h : FixTo n m l k) {f : Fix} (hf : l[k]? = some f) : fixesOk n m none l = (fixOk n m (prevF l k) f && fixesOk n m (prevF l (k + 1)) (l.drop (k + 1))) := by
  unfold FixTo at h
  rw [h, drop_get hf]
  have : prevF l (k + 1) = some f.place := by unfold prevF; rw [if_neg (by omega), Nat.add_sub_cancel, hf]; rfl
  rw [this]; rfl
theorem FixTo.next {n m : Nat} {l : List Fix} {k : Nat} (h : FixTo n m l k) {f : Fix} (hf : l[k]? = some f) (h1 : fixOk n m (prevF l k) f = true) : FixTo n m l (k + 1) := by
  unfold FixTo
  rw [h.eq hf, h1]; rfl
theorem FixTo.bad {n m : Nat} {l : List Fix} {k : Nat} (h : FixTo n m l k) {f : Fix} (hf : l[k]? = some f) (h1 : fixOk n m (prevF l k) f = false) : fixesOk n m none l = false := by rw [h.eq hf, h1]; rfl
theorem FixTo.done {n m : Nat} {l : List Fix} {k : Nat} (h : FixTo n m l k) (hk : l.length ≤ k) : fixesOk n m none l = true := by
  unfold FixTo at h
  rw [h, List.drop_of_length_le hk]; rfl
theorem may_fixups {o : OD} (h : fixesOk o.code.length o.imps.length Option.none o.fixups = false) : mayObj o = false := by unfold mayObj; rw [h, Bool.and_false]
theorem may_yes {o : OD} (h1 : mayImps o.name o.imps = true) (h2 : sizesOk o = true) (h3 : countsOk o = true) (h4 : ∀ (i : Nat) (x : Int), o.entries[i]? = some x → inN o.code.length x = true) (h5 : fixesOk o.code.length o.imps.length none o.fixups = true) : mayObj o = true := by
  have : o.entries.all (inN o.code.length) = true := by
    rw [List.all_eq_true]
    intro x hx
    obtain ⟨i, hi⟩ := List.mem_iff_getElem?.1 hx
    exact h4 i x hi
  unfold mayObj; rw [h1, h2, h3, this, h5]; rfl
theorem fix_no {n m : Nat} {p : Option Int} {f : Fix} (h : ¬ (0 ≤ f.place ∧ f.place < n ∧ 0 ≤ f.entry ∧ f.entry ≤ 200 ∧ 0 ≤ f.mod ∧ f.mod ≤ m ∧ ¬ (f.entry = 0 ∧ f.place = n - 1) ∧ ¬ (0 < f.entry ∧ f.mod = 0) ∧ before p f.place = true)) : fixOk n m p f = false := decide_eq_false h
theorem fix_yes {n m : Nat} {p : Option Int} {f : Fix} (h : 0 ≤ f.place ∧ f.place < n ∧ 0 ≤ f.entry ∧ f.entry ≤ 200 ∧ 0 ≤ f.mod ∧ f.mod ≤ m ∧ ¬ (f.entry = 0 ∧ f.place = n - 1) ∧ ¬ (0 < f.entry ∧ f.mod = 0) ∧ before p f.place = true) : fixOk n m p f = true := decide_eq_true h

def muchB (o : OD) : Bool := decide (40 < o.imps.length ∨ 20000 < o.text.length ∨ 20000 < o.code.length ∨ 400 < o.entries.length ∨ 10000 < o.fixups.length)
end

section
set_option linter.unusedVariables false
set_option linter.unusedSimpArgs false
open Go.RowKit

theorem drewN2 (w : World) (a b : Nat) : (w.drewN a).drewN b = w.drewN (a + b) := by unfold World.drewN; simp [Nat.add_assoc]
set_option maxHeartbeats 1000000 in
theorem refMayImports_any (s : ByteArray) (l : Sl Imp) (w : World) (hs : s.size ≤ maxLen) (hl : Rows impD w l) :
    Calls Try.prog 28 #[.string s, .slice l.a l.l.length l.c] w fun e w' => e = .returned (.bool (mayImps s l.l)) ∧ ∃ n, w' = w.drewN n := by
  have hlen := hl.len
  obtain ⟨b, o, hat, hcell⟩ := hl.at'
  have HR := Lib.hid hl.all; clear hl
  have HAt := Lib.hid hat; clear hat
  have HC := Lib.hid hcell; clear hcell
  have HS := Lib.hid hs; clear hs
  obtain ⟨la, lc, l⟩ := l
  dsimp only at HAt HC HR hlen
  go_enter Try.func28, Try.ntmps28
  go_wp2_with fail
  go_loopw [5, 6] (fun i j wr => ∃ k n : Nat, k ≤ l.length ∧ i = .int .i64 k ∧ ImpTo s l k ∧ wr = w.drewN n) (fun i _ _ => l.length - (intOf i).toNat)
  case atStart => exact ⟨0, 0, Nat.zero_le _, rfl, ImpTo.start s l, rfl⟩
  case round =>
    obtain ⟨k, n, hk, rfl, hI, rfl⟩ := hrel
    have HI := Lib.hid hI; clear hI
    by_cases hlt : k < l.length
    · obtain ⟨x, hx⟩ := get_lt hlt
      obtain ⟨rfl, hb⟩ := HAt.out (by omega)
      have hc := (imp_cells HC.out hx).1
      have hok := (HR.out x (List.mem_of_getElem? hx)).1
      have HX := Lib.hid hx; clear hx
      obtain ⟨xn, xk⟩ := x
      dsimp only at hc hok
      have HO := Lib.hid hok; clear hok
      by_cases he : xn = s
      · subst he
        go_wp2_with fail
        refine (refMayName_any _ _ HO.out).mono ?_
        rintro e w' ⟨rfl, rfl⟩
        go_wp2_with fail
        all_goals (go_ret; exact ⟨ret_bool (HI.out.bad2 HX.out rfl).symm, _, rfl⟩)
      · have hq := str_other he
        go_wp2_with fail
        refine (refMayName_any _ _ HO.out).mono ?_
        rintro e w' ⟨rfl, rfl⟩
        cases hm : mayName xn with
        | false =>
          go_wp2_with fail
          go_ret
          exact ⟨ret_bool (HI.out.bad1 HX.out hm).symm, _, rfl⟩
        | true =>
          have HM := Lib.hid hm; clear hm
          go_wp2_with fail
          go_loopw [6] (fun j wr => ∃ m n : Nat, m ≤ k ∧ j = .int .i64 m ∧ (∀ i y, i < m → l[i]? = some y → y.name ≠ xn) ∧ wr = w.drewN n) (fun j _ => k - (intOf j).toNat)
          case atStart => exact ⟨0, n, Nat.zero_le _, rfl, fun i y h => by omega, rfl⟩
          case round =>
            obtain ⟨m, n, hm, rfl, hJ, rfl⟩ := hrel
            have HJ := Lib.hid hJ; clear hJ
            by_cases hlm : m < k
            · obtain ⟨y, hy⟩ := get_lt (l := l) (i := m) (by omega)
              have hc2 := (imp_cells HC.out hy).1
              have HY := Lib.hid hy; clear hy
              obtain ⟨yn, yk⟩ := y
              dsimp only at hc2
              by_cases hyn : yn = xn
              · subst hyn
                go_wp2_with fail
                go_quiet (fail)
                go_wp2_with fail
                go_ret
                exact ⟨ret_bool (HI.out.bad3 HX.out hlm HY.out rfl).symm, _, drewN2 _ _ _⟩
              · have hq2 := str_other hyn
                go_wp2_with fail
                go_quiet (fail)
                go_wp2_with fail
                go_roundw
                case rel =>
                  refine ⟨m + 1, _, by omega, by go_num, fun i z hi hz => ?_, rfl⟩
                  rcases Nat.lt_or_ge i m with h | h
                  · exact HJ.out i z h hz
                  · obtain rfl : i = m := by omega
                    rw [HY.out] at hz; cases hz; exact hyn
                case measure => simp [intOf]; omega
            · obtain rfl : m = k := by omega
              go_wp2_with fail
              go_roundw
              case rel => exact ⟨m + 1, _, by omega, by go_num, HI.out.next HX.out HM.out he HJ.out, rfl⟩
              case measure => simp [intOf]; omega
    · have HD := Lib.hid (HI.out.done (by omega))
      go_wp2_with fail
      refine (refMayName_any _ _ HS.out).mono ?_
      rintro e w' ⟨rfl, rfl⟩
      cases hm : mayName s with
      | false =>
        go_wp2_with fail
        go_ret
        exact ⟨ret_bool (by rw [HD.out, hm]; rfl), _, rfl⟩
      | true =>
        have HM := Lib.hid hm
        clear hm
        go_wp2_with fail
        go_ret
        exact ⟨ret_bool (by rw [HD.out, HM.out, Bool.true_and]; exact decide_eq_decide.2 (by omega)), _, rfl⟩
end

section
set_option linter.unusedVariables false
set_option linter.unusedSimpArgs false
open Go.RowKit

theorem named_walk (yn : ByteArray) (yk : Int) (g : Nat) (xn : ByteArray) (w : World) (hg : w.cell? ⟨g, 0, none⟩ = some (.string xn)) (hl : g < w.heap.size) :
    Calls Try.prog 72 #[.agg #[.string yn, .int .u32 yk], .pointer (some ⟨g, 0, none⟩)] w fun e w' => e = .returned (.bool (yn.toList == xn.toList)) ∧ Below w.heap.size w w' := by
  have hne : ¬ g = w.heap.size := by omega
  have hne2 : ¬ w.heap.size = g := by omega
  have hc : (w.alloc (.cells #[.string yn, .int .u32 yk] 86)).cell? ⟨g, 0, none⟩ = some (.string xn) := ((bel1 w (.cells #[.string yn, .int .u32 yk] 86)).cell hl).trans hg
  go_enter Try.func72, Try.ntmps72
  go_wp2
  go_ret
  exact ⟨rfl, bel1 _ _⟩

/-- where a name stands first. -/
def Where (m : List Imp) (xn : ByteArray) (r : Int) : Prop := (r = -1 ∧ ∀ (j : Nat) (y : Imp), m[j]? = some y → y.name ≠ xn) ∨ (0 ≤ r ∧ ∃ (j : Nat) (y : Imp), m[j]? = some y ∧ y.name = xn)

set_option maxHeartbeats 1000000 in
theorem indexImp_walk (b o c : Nat) (m : List Imp) (g : Nat) (xn : ByteArray) (w : World) (hm : RowAt impD w b o m) (hb : b < w.heap.size) (hlen : m.length ≤ 9223372036854775807) (hg : w.cell? ⟨g, 0, none⟩ = some (.string xn)) (hl : g < w.heap.size) :
    Calls Try.prog 78 #[.slice (some ⟨b, o, none⟩) m.length c, .func (.func 72) #[] #[.pointer (some ⟨g, 0, none⟩)]] w fun e w' => (∃ r : Int, e = .returned (.int .i64 r) ∧ Where m xn r) ∧ Below w.heap.size w w' := by
  have HM := Lib.hid hm
  have HG := Lib.hid hg
  have HBB := Lib.hid hb
  have HL := Lib.hid hl
  clear hm hg hb hl
  go_enter Try.func78, Try.ntmps78
  go_wp2_with fail
  go_loopw [5, 8] (fun _ i wr => ∃ k : Nat, k ≤ m.length ∧ i = .int .i64 k ∧ (∀ (j : Nat) (y : Imp), j < k → m[j]? = some y → y.name ≠ xn) ∧ Below w.heap.size w wr) (fun _ i _ => m.length - (intOf i).toNat)
  case atStart => exact ⟨0, Nat.zero_le _, rfl, fun j y h => by omega, Below.refl _ _⟩
  case round =>
    obtain ⟨k, hk, rfl, hj, hB⟩ := hrel
    have HJ := Lib.hid hj
    have HB := Lib.hid hB
    clear hj hB
    by_cases hlt : k < m.length
    · obtain ⟨⟨yn, yk⟩, hy⟩ := get_lt hlt
      have HY := Lib.hid hy
      have HCO : Hid (∀ (q : Nat) (v : Value), ([.string yn, .int .u32 yk] : List Value)[q]? = some v → wr.cell? ⟨b, o + k * 2 + q, none⟩ = some v) := Lib.hid (fun q v hv => (HB.out.cell (p := ⟨b, o + k * 2 + q, none⟩) HBB.out).trans (HM.out k _ hy q v hv))
      have HGR : Hid (wr.cell? ⟨g, 0, none⟩ = some (.string xn)) := Lib.hid ((HB.out.cell HL.out).trans HG.out)
      have HGL : Hid (g < wr.heap.size) := Lib.hid (Nat.lt_of_lt_of_le HL.out HB.out.size)
      have HLT := Lib.hid hlt
      clear hy
      have f2 : True := trivial
      have f3 : True := trivial
      by_cases he : yn = xn
      · have q1 : (yn.toList == xn.toList) = true := str_same he
        have HW : Hid (Where m xn k) := Lib.hid (.inr ⟨by omega, k, _, HY.out, he⟩)
        clear he
        go_wp2_with (first | (have _f := f2; refine wpList_load_mid rfl 86 (.tmp 14) rfl b (o + k * 2) rfl [.string yn, .int .u32 yk] _ HCO.out Try.underlying86 rfl (by kernel_rfl) ?_; clear _f f2) | (have _f := f3; refine (named_walk yn yk g xn _ HGR.out HGL.out).mono ?_; rintro e w1 ⟨rfl, hb⟩; have HB1 := Lib.hid (bel_then HB.out hb); clear hb _f f3))
        go_ret
        exact ⟨⟨_, rfl, HW.out⟩, HB1.out⟩
      · have q1 : (yn.toList == xn.toList) = false := str_other he
        have HE := Lib.hid he
        clear he
        go_wp2_with (first | (have _f := f2; refine wpList_load_mid rfl 86 (.tmp 14) rfl b (o + k * 2) rfl [.string yn, .int .u32 yk] _ HCO.out Try.underlying86 rfl (by kernel_rfl) ?_; clear _f f2) | (have _f := f3; refine (named_walk yn yk g xn _ HGR.out HGL.out).mono ?_; rintro e w1 ⟨rfl, hb⟩; have HB1 := Lib.hid (bel_then HB.out hb); clear hb _f f3))
        go_roundw
        case rel =>
          refine ⟨k + 1, HLT.out, by go_num, fun j y hj hy => ?_, HB1.out⟩
          rcases Nat.lt_or_ge j k with h | h
          · exact HJ.out j y h hy
          · obtain rfl : j = k := by omega
            rw [HY.out] at hy; cases hy; exact HE.out
        case measure => simp [intOf]; have := HLT.out; omega
    · have HW : Hid (Where m xn (-1)) := Lib.hid (.inl ⟨rfl, fun j y hy => HJ.out j y (by have := (List.getElem?_eq_some_iff.1 hy).1; omega) hy⟩)
      clear hk
      go_wp2
      go_ret
      exact ⟨⟨_, rfl, HW.out⟩, HB.out⟩

theorem containsImp_walk (b o c : Nat) (m : List Imp) (g : Nat) (xn : ByteArray) (w : World) (hm : RowAt impD w b o m) (hb : b < w.heap.size) (hlen : m.length ≤ 9223372036854775807) (hg : w.cell? ⟨g, 0, none⟩ = some (.string xn)) (hl : g < w.heap.size) (n : Nat) (hn : m.length = n) :
    Calls Try.prog 71 #[.slice (some ⟨b, o, none⟩) n c, .func (.func 72) #[] #[.pointer (some ⟨g, 0, none⟩)]] w fun e w' => e = .returned (.bool ((m.map Imp.name).any (fun s => decide (s = xn)))) ∧ Below w.heap.size w w' := by
  subst hn
  have HI := Lib.hid (indexImp_walk b o c m g xn w hm hb hlen hg hl)
  have HA : Hid (∀ r, Where m xn r → decide (0 ≤ r) = (m.map Imp.name).any (fun s => decide (s = xn))) := Lib.hid (fun r h => by
    rw [List.any_map]
    rcases h with ⟨rfl, h⟩ | ⟨h0, j, y, hy, h⟩
    · symm
      rw [show decide ((0 : Int) ≤ -1) = false from rfl, List.any_eq_false]
      intro y hy
      obtain ⟨j, hj⟩ := List.mem_iff_getElem?.1 hy
      simpa using h j y hj
    · rw [decide_eq_true h0]; symm
      rw [List.any_eq_true]
      exact ⟨y, List.mem_of_getElem? hy, by simpa using h⟩)
  clear hm hb hg hl
  go_enter Try.func71, Try.ntmps71
  go_wp2_with (refine HI.out.mono ?_; rintro e w1 ⟨⟨r, rfl, hr⟩, hb⟩; have HR := Lib.hid (HA.out r hr); have HB := Lib.hid hb; clear hr hb)
  go_ret
  exact ⟨ret_bool HR.out, HB.out⟩
end

section
set_option linter.unusedVariables false
set_option linter.unusedSimpArgs false
open Go.RowKit

set_option maxHeartbeats 1000000 in
theorem imports_walk (s : ByteArray) (l : Sl Imp) (w : World) (hs : s.size ≤ maxLen) (hl : Rows impD w l) :
    Calls Try.prog 51 #[.string s, .slice l.a l.l.length l.c] w fun e w' => e = .returned (.bool (mayImps s l.l)) ∧ Below w.heap.size w w' := by
  have hlen := hl.len
  have hle := hl.row.le
  obtain ⟨b, o, hat, hcell⟩ := hl.at'
  have HR := Lib.hid hl.all; clear hl
  have HAt := Lib.hid hat; clear hat
  have HC := Lib.hid hcell; clear hcell
  have HS := Lib.hid hs; clear hs
  have HSN := Lib.hid (fun w' : World => Sep.nil w')
  obtain ⟨la, lc, l⟩ := l
  dsimp only at HAt HC HR hlen hle
  go_enter Try.func51, Try.ntmps51
  go_wp2_with fail
  go_loopw [5, 9] (fun _ i wr => ∃ k : Nat, k ≤ l.length ∧ i = .int .i64 k ∧ ImpTo s l k ∧ Below w.heap.size w wr) (fun _ i _ => l.length - (intOf i).toNat)
  case atStart => exact ⟨0, Nat.zero_le _, rfl, ImpTo.start s l, Below.refl _ _⟩
  case round =>
    obtain ⟨k, hk, rfl, hI, hB⟩ := hrel
    have HI := Lib.hid hI; clear hI
    have HB := Lib.hid hB; clear hB
    by_cases hlt : k < l.length
    · obtain ⟨⟨xn, xk⟩, hx⟩ := get_lt hlt
      obtain ⟨rfl, hb⟩ := HAt.out (by omega)
      have hco : ∀ (q : Nat) (y : Value), ([.string xn, .int .u32 xk] : List Value)[q]? = some y → wr.cell? ⟨b, o + k * 2 + q, none⟩ = some y := fun q y hy => (HB.out.cell (p := ⟨b, o + k * 2 + q, none⟩) hb).trans (HC.out k _ hx q y hy)
      have HCO := Lib.hid hco
      have hok := (HR.out _ (List.mem_of_getElem? hx)).1
      have HX := Lib.hid hx
      have HO := Lib.hid hok
      have kl0 : (k : Int) ≤ lc := by omega
      have kl1 : k ≤ lc := by omega
      have kl2 : 0 < lc := by omega
      have kl3 : ¬ lc = 0 := by omega
      have hbw := hb
      clear hx hco hb hok
      have f2 : True := trivial
      have f3 : True := trivial
      have f4 : True := trivial
      have f5 : True := trivial
      have HBL0 : Hid (b < wr.heap.size) := Lib.hid (Nat.lt_of_lt_of_le hbw HB.out.size)
      have HRT : Hid (RowAt impD wr b o (l.take k)) := Lib.hid (fun i x hi j u hj => (HB.out.cell (p := ⟨b, o + i * 2 + j, none⟩) hbw).trans (HC.out i x (by rw [List.getElem?_take] at hi; split at hi; exact hi; cases hi) j u hj))
      have HTK : Hid ((l.take k).length = k) := Lib.hid (by rw [List.length_take]; omega)
      have HTL : Hid ((l.take k).length ≤ 9223372036854775807) := Lib.hid (by rw [List.length_take]; omega)
      have HLT := Lib.hid hlt
      have f6 : True := trivial
      clear hbw
      cases hm : mayName xn with
      | false =>
        have HV : Hid (false = mayImps s l) := Lib.hid (HI.out.bad1 HX.out hm).symm
        have HM := Lib.hid hm
        clear hm
        go_wp2_with (first | (have _f := f2; refine wpList_load_mid rfl 86 (.tmp 12) rfl b (o + k * 2) rfl [.string xn, .int .u32 xk] _ HCO.out Try.underlying86 rfl (by kernel_rfl) ?_; clear _f f2) | (have _f := f3; refine alloc_sep rfl 86 rfl (HSN.out _) (z := .agg #[.string ⟨#[]⟩, .int .u32 0]) (cs := #[.string ⟨#[]⟩, .int .u32 0]) (by kernel_rfl) rfl ?_; intro wc S' b' s'; have HSc := Lib.hid S'; have HBc := Lib.hid b'; clear S' b' s' _f f3) | (have _f := f4; refine store_sep (cells := #[.string xn, .int .u32 xk]) rfl 86 (.tmp 6) (.tmp 13) rfl HSc.out 0 rfl rfl rfl (by kernel_rfl) rfl rfl ?_; intro we S' k' s'; have HSe := Lib.hid S'; have HBe : Hid (Below wr.heap.size wr we) := Lib.hid (((Ke.below (· = wr.heap.size) HBc.out).trans k').toBelow (fun i hi e => absurd e (Nat.ne_of_lt hi))); have y0 : we.cell? ⟨wr.heap.size, 0, none⟩ = some (.string xn) := ((S'.at 0 rfl).cell 0).trans rfl; clear S' k' s' _f f4) | (have _f := f5; refine (mayName_any _ _ HO.out).mono ?_; rw [HM.out]; rintro e w' ⟨rfl, rfl⟩; clear _f f5))
        go_ret
        exact ⟨ret_bool HV.out, bel_then HB.out HBe.out⟩
      | true =>
        have HM := Lib.hid hm
        clear hm
        by_cases he : xn = s
        · have hq : (xn.toList == s.toList) = true := str_same he
          have HV : Hid (false = mayImps s l) := Lib.hid (HI.out.bad2 HX.out he).symm
          clear he
          go_wp2_with (first | (have _f := f2; refine wpList_load_mid rfl 86 (.tmp 12) rfl b (o + k * 2) rfl [.string xn, .int .u32 xk] _ HCO.out Try.underlying86 rfl (by kernel_rfl) ?_; clear _f f2) | (have _f := f3; refine alloc_sep rfl 86 rfl (HSN.out _) (z := .agg #[.string ⟨#[]⟩, .int .u32 0]) (cs := #[.string ⟨#[]⟩, .int .u32 0]) (by kernel_rfl) rfl ?_; intro wc S' b' s'; have HSc := Lib.hid S'; have HBc := Lib.hid b'; clear S' b' s' _f f3) | (have _f := f4; refine store_sep (cells := #[.string xn, .int .u32 xk]) rfl 86 (.tmp 6) (.tmp 13) rfl HSc.out 0 rfl rfl rfl (by kernel_rfl) rfl rfl ?_; intro we S' k' s'; have HSe := Lib.hid S'; have HBe : Hid (Below wr.heap.size wr we) := Lib.hid (((Ke.below (· = wr.heap.size) HBc.out).trans k').toBelow (fun i hi e => absurd e (Nat.ne_of_lt hi))); have y0 : we.cell? ⟨wr.heap.size, 0, none⟩ = some (.string xn) := ((S'.at 0 rfl).cell 0).trans rfl; clear S' k' s' _f f4) | (have _f := f5; refine (mayName_any _ _ HO.out).mono ?_; rw [HM.out]; rintro e w' ⟨rfl, rfl⟩; clear _f f5))
          go_ret
          exact ⟨ret_bool HV.out, bel_then HB.out HBe.out⟩
        · have hq : (xn.toList == s.toList) = false := str_other he
          have HNE := Lib.hid he
          clear he
          cases ha : ((l.take k).map Imp.name).any (fun s => decide (s = xn)) with
          | true =>
            have HAN := Lib.hid ha
            have HV : Hid (false = mayImps s l) := Lib.hid (by obtain ⟨j, y, h1, h2, h3⟩ := seen_iff.1 ha; exact (HI.out.bad3 HX.out h1 h2 h3).symm)
            clear ha
            go_wp2_with (first | (have _f := f2; refine wpList_load_mid rfl 86 (.tmp 12) rfl b (o + k * 2) rfl [.string xn, .int .u32 xk] _ HCO.out Try.underlying86 rfl (by kernel_rfl) ?_; clear _f f2) | (have _f := f3; refine alloc_sep rfl 86 rfl (HSN.out _) (z := .agg #[.string ⟨#[]⟩, .int .u32 0]) (cs := #[.string ⟨#[]⟩, .int .u32 0]) (by kernel_rfl) rfl ?_; intro wc S' b' s'; have HSc := Lib.hid S'; have HBc := Lib.hid b'; clear S' b' s' _f f3) | (have _f := f4; refine store_sep (cells := #[.string xn, .int .u32 xk]) rfl 86 (.tmp 6) (.tmp 13) rfl HSc.out 0 rfl rfl rfl (by kernel_rfl) rfl rfl ?_; intro we S' k' s'; have HSe := Lib.hid S'; have HBe : Hid (Below wr.heap.size wr we) := Lib.hid (((Ke.below (· = wr.heap.size) HBc.out).trans k').toBelow (fun i hi e => absurd e (Nat.ne_of_lt hi))); have y0 : we.cell? ⟨wr.heap.size, 0, none⟩ = some (.string xn) := ((S'.at 0 rfl).cell 0).trans rfl; clear S' k' s' _f f4) | (have _f := f5; refine (mayName_any _ _ HO.out).mono ?_; rw [HM.out]; rintro e w' ⟨rfl, rfl⟩; clear _f f5) | (have _f := f6; refine (containsImp_walk b o lc (l.take k) wr.heap.size xn _ (fun i x hx j u hj => (HBe.out.cell (p := ⟨b, o + i * 2 + j, none⟩) HBL0.out).trans (HRT.out i x hx j u hj)) (Nat.lt_of_lt_of_le HBL0.out HBe.out.size) HTL.out ((HSe.out.at 0 rfl).cell 0 |>.trans rfl) (HSe.out.at 0 rfl).lt k HTK.out).mono ?_; rw [HAN.out]; rintro e w' ⟨rfl, hb⟩; have HBg := Lib.hid (bel_then HBe.out hb); clear hb _f f6))
            go_ret
            exact ⟨ret_bool HV.out, bel_then HB.out HBg.out⟩
          | false =>
            have HAN := Lib.hid ha
            have HNX : Hid (ImpTo s l (k + 1)) := Lib.hid (HI.out.next HX.out HM.out HNE.out (fun j y hj hy e => by have := seen_iff.2 ⟨j, y, hj, hy, e⟩; rw [ha] at this; cases this))
            clear ha
            go_wp2_with (first | (have _f := f2; refine wpList_load_mid rfl 86 (.tmp 12) rfl b (o + k * 2) rfl [.string xn, .int .u32 xk] _ HCO.out Try.underlying86 rfl (by kernel_rfl) ?_; clear _f f2) | (have _f := f3; refine alloc_sep rfl 86 rfl (HSN.out _) (z := .agg #[.string ⟨#[]⟩, .int .u32 0]) (cs := #[.string ⟨#[]⟩, .int .u32 0]) (by kernel_rfl) rfl ?_; intro wc S' b' s'; have HSc := Lib.hid S'; have HBc := Lib.hid b'; clear S' b' s' _f f3) | (have _f := f4; refine store_sep (cells := #[.string xn, .int .u32 xk]) rfl 86 (.tmp 6) (.tmp 13) rfl HSc.out 0 rfl rfl rfl (by kernel_rfl) rfl rfl ?_; intro we S' k' s'; have HSe := Lib.hid S'; have HBe : Hid (Below wr.heap.size wr we) := Lib.hid (((Ke.below (· = wr.heap.size) HBc.out).trans k').toBelow (fun i hi e => absurd e (Nat.ne_of_lt hi))); have y0 : we.cell? ⟨wr.heap.size, 0, none⟩ = some (.string xn) := ((S'.at 0 rfl).cell 0).trans rfl; clear S' k' s' _f f4) | (have _f := f5; refine (mayName_any _ _ HO.out).mono ?_; rw [HM.out]; rintro e w' ⟨rfl, rfl⟩; clear _f f5) | (have _f := f6; refine (containsImp_walk b o lc (l.take k) wr.heap.size xn _ (fun i x hx j u hj => (HBe.out.cell (p := ⟨b, o + i * 2 + j, none⟩) HBL0.out).trans (HRT.out i x hx j u hj)) (Nat.lt_of_lt_of_le HBL0.out HBe.out.size) HTL.out ((HSe.out.at 0 rfl).cell 0 |>.trans rfl) (HSe.out.at 0 rfl).lt k HTK.out).mono ?_; rw [HAN.out]; rintro e w' ⟨rfl, hb⟩; have HBg := Lib.hid (bel_then HBe.out hb); clear hb _f f6))
            go_roundw
            case rel => exact ⟨k + 1, HLT.out, by go_num, HNX.out, bel_then HB.out HBg.out⟩
            case measure => simp [intOf]; have := HLT.out; omega
    · have HD := Lib.hid (HI.out.done (by omega))
      have f5 : True := trivial
      clear hk
      cases hm : mayName s with
      | false =>
        have HM := Lib.hid hm
        have HV : Hid (false = mayImps s l) := Lib.hid (by rw [HD.out, hm]; rfl)
        clear hm
        go_wp2_with (have _f := f5; refine (mayName_any _ _ HS.out).mono ?_; rw [HM.out]; rintro e w' ⟨rfl, rfl⟩; clear _f f5)
        go_ret
        exact ⟨ret_bool HV.out, HB.out⟩
      | true =>
        have HM := Lib.hid hm
        have HV : Hid (decide ((l.length : Int) ≤ 12) = mayImps s l) := Lib.hid (by rw [HD.out, hm, Bool.true_and]; exact decide_eq_decide.2 (by omega))
        clear hm
        go_wp2_with (have _f := f5; refine (mayName_any _ _ HS.out).mono ?_; rw [HM.out]; rintro e w' ⟨rfl, rfl⟩; clear _f f5)
        go_ret
        exact ⟨ret_bool HV.out, HB.out⟩
end

section
set_option linter.unusedVariables false
set_option linter.unusedSimpArgs false
open Go.RowKit

theorem in_walk (x : Int) (g n : Nat) (a : Option Addr) (c : Nat) (w : World) (hc : w.cell? ⟨g, 5, none⟩ = some (.slice a n c)) :
    Calls Try.prog 52 #[.int .i64 x, .pointer (some ⟨g, 0, none⟩)] w fun e w' => e = .returned (.bool (inN n x)) ∧ w = w' := by
  by_cases h : 0 ≤ x
  · have HE : Hid (decide (x < n) = inN n x) := Lib.hid (decide_eq_decide.2 (by omega))
    go_enter Try.func52, Try.ntmps52
    go_wp2
    go_ret
    exact ⟨ret_bool HE.out, rfl⟩
  · have HE : Hid (false = inN n x) := Lib.hid (decide_eq_false (by omega)).symm
    go_enter Try.func52, Try.ntmps52
    go_wp2
    go_ret
    exact ⟨ret_bool HE.out, rfl⟩
theorem out_walk (x : Int) (g3 g n : Nat) (a : Option Addr) (c : Nat) (w : World) (hf : w.cell? ⟨g3, 0, none⟩ = some (.func (.func 52) #[] #[.pointer (some ⟨g, 0, none⟩)])) (hc : w.cell? ⟨g, 5, none⟩ = some (.slice a n c)) :
    Calls Try.prog 54 #[.int .i64 x, .pointer (some ⟨g3, 0, none⟩)] w fun e w' => e = .returned (.bool (!inN n x)) ∧ w = w' := by
  have HI := Lib.hid (in_walk x g n a c w hc)
  go_enter Try.func54, Try.ntmps54
  go_wp2_with (refine HI.out.mono ?_; rintro e w1 ⟨rfl, rfl⟩)
  go_ret
  exact ⟨rfl, rfl⟩

def WhereI (m : List Int) (p : Int → Bool) (r : Int) : Prop := (r = -1 ∧ ∀ (j : Nat) (y : Int), m[j]? = some y → p y = false) ∨ (0 ≤ r ∧ ∃ (j : Nat) (y : Int), m[j]? = some y ∧ p y = true)

set_option maxHeartbeats 1000000 in
theorem indexInt_walk (m : Sl Int) (g3 g n : Nat) (a : Option Addr) (c : Nat) (w : World) (hm : Rows (intD .i64) w m) (hf : w.cell? ⟨g3, 0, none⟩ = some (.func (.func 52) #[] #[.pointer (some ⟨g, 0, none⟩)])) (hc : w.cell? ⟨g, 5, none⟩ = some (.slice a n c)) :
    Calls Try.prog 73 #[.slice m.a m.l.length m.c, .func (.func 54) #[] #[.pointer (some ⟨g3, 0, none⟩)]] w fun e w' => (∃ r : Int, e = .returned (.int .i64 r) ∧ WhereI m.l (fun x => !inN n x) r) ∧ w = w' := by
  have hlen := hm.len
  obtain ⟨b, o, hat, hcell⟩ := hm.at'
  have HAt := Lib.hid hat
  have HC := Lib.hid hcell
  have HO := Lib.hid (fun x => out_walk x g3 g n a c w hf hc)
  clear hat hcell hm hf hc
  obtain ⟨la, lc, m⟩ := m
  dsimp only at HAt HC hlen
  go_enter Try.func73, Try.ntmps73
  go_wp2_with fail
  go_loop [5, 8] (fun _ i => ∃ k : Nat, k ≤ m.length ∧ i = .int .i64 k ∧ (∀ (j : Nat) (y : Int), j < k → m[j]? = some y → inN n y = true)) (fun _ i => m.length - (intOf i).toNat)
  case atStart => exact ⟨0, Nat.zero_le _, rfl, fun j y h => by omega⟩
  case round =>
    obtain ⟨k, hk, rfl, hj⟩ := hrel
    have HJ := Lib.hid hj
    clear hj
    by_cases hlt : k < m.length
    · obtain ⟨x, hx⟩ := get_lt hlt
      obtain ⟨rfl, hb⟩ := HAt.out (by omega)
      have ce : w.cell? ⟨b, o + k, none⟩ = some (.int .i64 x) := by
        have := HC.out k x hx 0 (.int .i64 x) rfl
        rwa [show o + k * (intD .i64).size + 0 = o + k from by show o + k * 1 + 0 = _; omega] at this
      have HX := Lib.hid hx
      have HLT := Lib.hid hlt
      clear hx hb
      cases hq : inN n x with
      | true =>
        have HQ := Lib.hid hq
        clear hq
        go_wp2_with (refine (HO.out x).mono ?_; rw [HQ.out]; rintro e w1 ⟨rfl, rfl⟩)
        go_round
        case rel =>
          refine ⟨k + 1, HLT.out, by go_num, fun j y hj hy => ?_⟩
          rcases Nat.lt_or_ge j k with h | h
          · exact HJ.out j y h hy
          · obtain rfl : j = k := by omega
            rw [HX.out] at hy; cases hy; exact HQ.out
        case measure => simp [intOf]; have := HLT.out; omega
      | false =>
        have HQ := Lib.hid hq
        have HW : Hid (WhereI m (fun x => !inN n x) k) := Lib.hid (.inr ⟨by omega, k, x, HX.out, by show (!inN n x) = true; rw [hq]; rfl⟩)
        clear hq
        go_wp2_with (refine (HO.out x).mono ?_; rw [HQ.out]; rintro e w1 ⟨rfl, rfl⟩)
        go_ret
        exact ⟨⟨_, rfl, HW.out⟩, rfl⟩
    · have HW : Hid (WhereI m (fun x => !inN n x) (-1)) := Lib.hid (.inl ⟨rfl, fun j y hy => by show (!inN n y) = false; rw [HJ.out j y (by have := (List.getElem?_eq_some_iff.1 hy).1; omega) hy]; rfl⟩)
      clear hk
      go_wp2
      go_ret
      exact ⟨⟨_, rfl, HW.out⟩, rfl⟩

theorem containsInt_walk (m : Sl Int) (g3 g n : Nat) (a : Option Addr) (c : Nat) (w : World) (hm : Rows (intD .i64) w m) (hf : w.cell? ⟨g3, 0, none⟩ = some (.func (.func 52) #[] #[.pointer (some ⟨g, 0, none⟩)])) (hc : w.cell? ⟨g, 5, none⟩ = some (.slice a n c)) :
    Calls Try.prog 53 #[.slice m.a m.l.length m.c, .func (.func 54) #[] #[.pointer (some ⟨g3, 0, none⟩)]] w fun e w' => e = .returned (.bool (!(m.l.all (inN n)))) ∧ w = w' := by
  have HI := Lib.hid (indexInt_walk m g3 g n a c w hm hf hc)
  have HA : Hid (∀ r, WhereI m.l (fun x => !inN n x) r → decide (0 ≤ r) = !(m.l.all (inN n))) := Lib.hid (fun r h => by
    rcases h with ⟨rfl, h⟩ | ⟨h0, j, y, hy, h⟩
    · have : m.l.all (inN n) = true := by
        rw [List.all_eq_true]
        intro y hy
        obtain ⟨j, hj⟩ := List.mem_iff_getElem?.1 hy
        simpa using h j y hj
      rw [this]; rfl
    · have : m.l.all (inN n) = false := by
        rw [Bool.eq_false_iff]
        intro ha
        rw [List.all_eq_true] at ha
        have := ha y (List.mem_of_getElem? hy)
        simp only [this] at h
        cases h
      rw [this, decide_eq_true h0]; rfl)
  clear hm hf hc
  go_enter Try.func53, Try.ntmps53
  go_wp2_with (refine HI.out.mono ?_; rintro e w1 ⟨⟨r, rfl, hr⟩, rfl⟩; have HR := Lib.hid (HA.out r hr); clear hr)
  go_ret
  exact ⟨ret_bool HR.out, rfl⟩
end

section
set_option linter.unusedVariables false
set_option linter.unusedSimpArgs false
open Go.RowKit

theorem refMayImports_bel (s : ByteArray) (l : Sl Imp) (w : World) (hs : s.size ≤ maxLen) (hl : Rows impD w l) :
    Calls Try.prog 28 #[.string s, .slice l.a l.l.length l.c] w fun e w' => e = .returned (.bool (mayImps s l.l)) ∧ Below w.heap.size w w' :=
  (refMayImports_any s l w hs hl).mono fun e w' ⟨he, n, hn⟩ => ⟨he, by rw [hn]; exact ⟨rfl, rfl, rfl, Nat.le_refl _, fun _ _ => rfl⟩⟩
end

section
set_option linter.unusedVariables false
set_option linter.unusedSimpArgs false
open Go.RowKit

theorem int_cell {k : IntKind} {w : World} {b o : Nat} {l : List Int} (h : RowAt (intD k) w b o l) {i : Nat} {x : Int} (hx : l[i]? = some x) : w.cell? ⟨b, o + i, none⟩ = some (.int k x) := by
  have := h i x hx 0 (.int k x) rfl
  rwa [show o + i * (intD k).size + 0 = o + i from by show o + i * 1 + 0 = _; omega] at this
theorem _root_.Go.RowKit.Below.drewN' {B : Nat} {w w' : World} (h : Below B w w') (n : Nat) : Below B w (w'.drewN n) := h.trans ⟨rfl, rfl, rfl, Nat.le_refl _, fun _ _ => rfl⟩
theorem before_zero {l : List Fix} {x : Int} : before (prevF l 0) x = true := rfl
theorem before_succ {l : List Fix} {i : Nat} (hi : 0 < i) {f : Fix} (hf : l[i - 1]? = some f) (x : Int) : before (prevF l i) x = decide (f.place < x) := by
  unfold prevF
  rw [if_neg (by omega), hf]; rfl
end

section
set_option linter.unusedVariables false
set_option linter.unusedSimpArgs false
open Go.RowKit

/-- a row of the call's own was written. -/
theorem bel_own {w0 w w' : World} {e : TypeId} {size n : Nat} {v : Value} {xs : List Value} (hb : Below w0.heap.size w0 w) (own : w.ownsRow w0.heap.size e size v n xs) (hg : w.grownBy w' v.ownBlock) : Below w0.heap.size w0 w' :=
  ((Ke.below (fun i => w0.heap.size ≤ i) hb).trans ((Ke.ofGrown hg).mono (fun i _ e => (own.lt i e).1))).toBelow (fun i hi e => absurd hi (Nat.not_lt.2 e))
theorem ownsRow_bel {w w' : World} {base size n : Nat} {e : TypeId} {v : Value} {xs : List Value} (h : w.ownsRow base e size v n xs) (k : Below w.heap.size w w') : w'.ownsRow base e size v n xs := by
  obtain ⟨h2, h3⟩ := h
  refine ⟨h2, ?_⟩
  rcases h3 with h3 | ⟨b, cap, cur, rfl, q2, q3, q4⟩
  · exact .inl h3
  · exact .inr ⟨b, cap, cur, rfl, q2, (k.block b (Array.getElem?_eq_some_iff.1 q3).1).trans q3, q4⟩
theorem ownsRow_no {w : World} {base n size : Nat} {e t : TypeId} {v : Value} {xs : List Value} {g : Nat} {cs : Array Value} (h : w.ownsRow base e size v n xs) (ha : At w g cs t) (ht : e ≠ t) : v.ownBlock ≠ some g := by
  obtain ⟨_, h3⟩ := h
  rcases h3 with ⟨rfl, _⟩ | ⟨b, cap, cur, rfl, _, q3, _⟩
  · simp [Value.ownBlock]
  · intro e'
    have : b = g := by simpa [Value.ownBlock] using e'
    subst this
    unfold At at ha
    rw [q3] at ha
    simp only [Option.some.injEq, Obj.cells.injEq] at ha
    exact ht ha.2.1
theorem ke_cell {G : Nat → Prop} {w w' : World} {p : Addr} {v : Value} (h : Ke G w w') (hp : p.block < w.heap.size) (hG : ¬ G p.block) (hv : w.cell? p = some v) : w'.cell? p = some v := by
  unfold World.cell? at hv ⊢
  rw [h.block p.block hp hG]; exact hv
theorem et_u8 : ET Try.prog 46 5 (.int .u8 0) 1 1 := ET.of Try.underlying46 (by kernel_rfl) (by decide) (by decide)
theorem info_u8 : (Try.prog.info? 5).map (fun i => (i.zero, i.size, i.bytes)) = some (some (.int .u8 0), 1, 1) := by kernel_rfl
theorem rd_lit8 (w : World) (l : List Int) (h : ∀ x ∈ l, isByte x) (hl : l.length ≤ 1000) : RdI .u8 (w.alloc (.cells (l.map (Value.int .u8)).toArray 5)) (some ⟨w.heap.size, 0, none⟩) l.length l :=
  ⟨⟨⟨w.heap.size, 0, fun _ => ⟨rfl, by simp⟩, fun j u hj => by rw [Nat.zero_add, (At.new w _ 5).cell]; simpa using hj⟩, fun h => (by cases h), Nat.le_refl _, by unfold maxLen; omega⟩, fun x hx => bd_u8' (h x hx)⟩
theorem own_lit8 (w : World) (l : List Int) (hl : l.length ≤ 1000) {B : Nat} (hB : B ≤ w.heap.size) : (w.alloc (.cells (l.map (Value.int .u8)).toArray 5)).ownsRow B 5 1 (.slice (some ⟨w.heap.size, 0, none⟩) l.length l.length) l.length (l.map (Value.int .u8)) :=
  ⟨by simp, .inr ⟨w.heap.size, l.length, _, rfl, hB, At.new w _ 5, Nat.le_refl _, by unfold maxLen; omega, by simp, by rw [Nat.mul_one]; exact List.take_of_length_le (by simp)⟩⟩
theorem strCells_bytes (s : ByteArray) : Lib.strCells s = (bytesI s).map (Value.int .u8) := by
  unfold Lib.strCells bytesI
  rw [List.map_map]; rfl

theorem refWord_walk (n : Int) (w : World) (h : 0 ≤ n ∧ n < 4294967296) :
    Calls Try.prog 46 #[.int .u32 n] w fun e w' => ∃ a c, e = .returned (.slice a 4 c) ∧ RdI .u8 w' a c (wordB n) ∧ Below w.heap.size w w' := by
  obtain ⟨h1, h2⟩ := h
  go_enter Try.func46, Try.ntmps46
  go_wp2
  go_ret
  have hr := rd_lit8 w (wordB n) (wordB_byte n) (show 4 ≤ 1000 by decide)
  have e : wordB n = [n % 256, n / 256 % 256, n / 65536 % 256, n / 16777216] := by unfold wordB; rw [show n / 16777216 % 256 = n / 16777216 by omega]
  rw [e] at hr ⊢
  exact ⟨_, _, rfl, hr, bel1 _ _⟩

theorem nameB_len (s : ByteArray) : (nameB s).length = 1 + s.size := by unfold nameB; rw [List.length_cons, bytesI_len]; omega
theorem nameB_byte (s : ByteArray) : ∀ x ∈ nameB s, isByte x := by
  intro x hx
  unfold nameB at hx
  rcases List.mem_cons.1 hx with rfl | hx
  · exact ⟨by omega, by omega⟩
  · exact bytesI_byte s x hx

set_option maxHeartbeats 1000000 in
theorem refName_walk (s : ByteArray) (w : World) (hs : s.size ≤ 1000000) :
    Calls Try.prog 45 #[.string s] w fun e w' => ∃ a c, e = .returned (.slice a (nameB s).length c) ∧ RdI .u8 w' a c (nameB s) ∧ Below w.heap.size w w' := by
  have h1 : (s.size : Int) ≤ 1000000 := by omega
  have HB1 := Lib.hid (show 1 + s.size ≤ 140737488355328 by omega)
  have HB2 := Lib.hid (show 1 + s.size ≤ maxLen by unfold maxLen; omega)
  have HOW := Lib.hid (own_lit8 w [(s.size : Int) % 256] (show 1 ≤ 1000 by decide) (Nat.le_refl _))
  have HBL := Lib.hid (bel1 w (.cells #[.int .u8 ((s.size : Int) % 256)] 5))
  clear hs
  obtain ⟨ti, hti, hti0, hti1, hti2⟩ := info_parts info_u8
  have HT := Lib.hid (And.intro hti (And.intro hti0 (And.intro hti1 hti2)))
  clear hti hti0 hti1 hti2
  have f1 : True := trivial
  go_enter Try.func45, Try.ntmps45
  go_wp2_with (have _f := f1; refine Lib.wpList_append_own_string _ rfl (.tmp 6) (.tmp 7) 46 9 rfl w.heap.size 5 ti Try.underlying46 Try.underlying9 HT.out.1 HT.out.2.1 HT.out.2.2.1 HT.out.2.2.2 (.slice (some ⟨w.heap.size, 0, none⟩) 1 1) 1 _ rfl HOW.out s rfl HB2.out HB1.out HBL.out.size ?_; intro v' w' own' gr' _; have HB := Lib.hid (bel_own HBL.out HOW.out gr'); have HO := Lib.hid own'; clear own' gr' _f f1)
  go_ret
  have e : ([(s.size : Int) % 256].map (Value.int .u8) ++ Lib.strCells s) = (nameB s).map (Value.int .u8) := by rw [strCells_bytes]; rfl
  have ho := HO.out
  rw [e] at ho
  obtain ⟨a, c, rfl, hr⟩ := RdI.own ho (fun x hx => bd_u8' (nameB_byte s x hx))
  exact ⟨a, c, by rw [nameB_len]; rfl, hr, HB.out⟩
end

end Go.Proofs.Ytfnibpkojhgflaa
