/- Plain: bytes that are read piece by piece; an object's bytes; what bytes are read as: the one undoes the other. No program in sight. -/
import Derived.Test.YtfnibpkojhgflaaObjData
namespace Go.Proofs.Ytfnibpkojhgflaa
set_option linter.unusedVariables false
set_option linter.unusedSimpArgs false

def isByte (x : Int) : Prop := 0 ≤ x ∧ x < 256
def wordB (n : Int) : List Int := [n % 256, n / 256 % 256, n / 65536 % 256, n / 16777216 % 256]
def bytesI (s : ByteArray) : List Int := s.data.toList.map fun c => (c.toNat : Int)
def nameB (s : ByteArray) : List Int := (s.size : Int) % 256 :: bytesI s
def strL (l : List Int) : ByteArray := ⟨(l.map fun x => UInt8.ofNat x.toNat).toArray⟩

theorem bytesI_len (s : ByteArray) : (bytesI s).length = s.size := by unfold bytesI; rw [List.length_map]; rfl
theorem bytesI_byte (s : ByteArray) : ∀ x ∈ bytesI s, isByte x := by
  intro x hx
  unfold bytesI at hx
  rw [List.mem_map] at hx
  obtain ⟨c, _, rfl⟩ := hx
  have := c.toNat_lt
  exact ⟨by omega, by omega⟩
theorem strL_bytesI (s : ByteArray) : strL (bytesI s) = s := by
  unfold strL bytesI
  rw [List.map_map]
  apply ByteArray.ext
  show (List.map _ s.data.toList).toArray = s.data
  rw [show ((fun x : Int => UInt8.ofNat x.toNat) ∘ fun c : UInt8 => (c.toNat : Int)) = id from by
    funext c
    show UInt8.ofNat ((c.toNat : Int)).toNat = c
    rw [Int.toNat_natCast]; exact UInt8.ofNat_toNat]
  simp
theorem bytesI_strL {l : List Int} (h : ∀ x ∈ l, isByte x) : bytesI (strL l) = l := by
  unfold strL bytesI
  show List.map _ (List.map _ l).toArray.toList = l
  rw [List.toList_toArray, List.map_map]
  conv => rhs; rw [← List.map_id l]
  apply List.map_congr_left
  intro x hx
  obtain ⟨h1, h2⟩ := h x hx
  show ((UInt8.ofNat x.toNat).toNat : Int) = x
  rw [UInt8.toNat_ofNat_of_lt' (by show x.toNat < 256; omega)]
  omega
theorem strL_size (l : List Int) : (strL l).size = l.length := by unfold strL; show (List.map _ l).toArray.size = _; simp
theorem bytesI_inj {s t : ByteArray} (h : bytesI s = bytesI t) : s = t := by rw [← strL_bytesI s, h, strL_bytesI]

/-! ### a reader: what is left; none: there was too little -/
abbrev St := Option (List Int)
def rSome (n : Nat) : St → List Int × St
  | none => ([], none)
  | some b => if b.length < n then ([], none) else (b.take n, some (b.drop n))
def rByte (s : St) : Int × St := ((rSome 1 s).1.getD 0 0, (rSome 1 s).2)
def word4 (l : List Int) : Int := l.getD 0 0 + 256 * l.getD 1 0 + 65536 * l.getD 2 0 + 16777216 * l.getD 3 0
def rWord (s : St) : Int × St := (word4 (rSome 4 s).1, (rSome 4 s).2)
def rCount (most : Int) (r : Int × St) : Int × St := if most < r.1 then (0, none) else r
def rName (most : Int) (s : St) : ByteArray × St := (strL (rSome (rCount most (rByte s)).1.toNat (rCount most (rByte s)).2).1, (rSome (rCount most (rByte s)).1.toNat (rCount most (rByte s)).2).2)
def rLoop {α : Type} (f : St → α × St) : Nat → St → List α × St
  | 0, s => ([], s)
  | n + 1, s => ((f s).1 :: (rLoop f n (f s).2).1, (rLoop f n (f s).2).2)

/-- a reader and its writer. -/
structure Reads {α : Type} (f : St → α × St) (enc : α → List Int) (ok : α → Prop) : Prop where
  full : ∀ x r, ok x → f (some (enc x ++ r)) = (x, some r)
  sound : ∀ b x r, (∀ y ∈ b, isByte y) → f (some b) = (x, some r) → b = enc x ++ r ∧ ok x
  bad : (f none).2 = none

theorem Reads.from {α : Type} {f : St → α × St} {enc : α → List Int} {ok : α → Prop} (h : Reads f enc ok) {s : St} {x : α} {r : List Int} (e : f s = (x, some r)) : ∃ b, s = some b := by
  cases s with
  | some b => exact ⟨b, rfl⟩
  | none => have := h.bad; rw [e] at this; cases this

theorem rSome_full (l r : List Int) (n : Nat) (hn : l.length = n) : rSome n (some (l ++ r)) = (l, some r) := by
  subst hn
  unfold rSome
  simp
theorem rSome_sound {b l r : List Int} {n : Nat} (h : rSome n (some b) = (l, some r)) : b = l ++ r ∧ l.length = n := by
  unfold rSome at h
  simp only at h
  split at h
  · cases h
  · rename_i hlt
    simp only [Prod.mk.injEq, Option.some.injEq] at h
    obtain ⟨rfl, rfl⟩ := h
    exact ⟨(List.take_append_drop n b).symm, by rw [List.length_take]; omega⟩
theorem rSome_bad (n : Nat) : rSome n none = ([], none) := rfl

theorem rByte_reads : Reads rByte (fun n => [n % 256]) isByte where
  full := by
    intro x r ⟨h1, h2⟩
    unfold rByte
    rw [rSome_full [x % 256] r 1 rfl]
    show (x % 256, some r) = _
    rw [Int.emod_eq_of_lt h1 h2]
  sound := by
    intro b x r hb h
    unfold rByte at h
    obtain ⟨l, s, hs⟩ : ∃ l s, rSome 1 (some b) = (l, s) := ⟨_, _, rfl⟩
    rw [hs] at h
    simp only [Prod.mk.injEq] at h
    obtain ⟨rfl, rfl⟩ := h
    obtain ⟨rfl, hl⟩ := rSome_sound hs
    match l, hl with
    | [y], _ =>
      have hy := hb y (by simp)
      show [y] ++ r = [y % 256] ++ r ∧ isByte y
      rw [Int.emod_eq_of_lt hy.1 hy.2]
      exact ⟨rfl, hy⟩
  bad := rfl

theorem wordB_len (n : Int) : (wordB n).length = 4 := rfl
theorem wordB_byte (n : Int) : ∀ x ∈ wordB n, isByte x := by
  intro x hx
  unfold wordB at hx
  simp only [List.mem_cons, List.not_mem_nil, or_false] at hx
  rcases hx with rfl | rfl | rfl | rfl <;> exact ⟨by omega, by omega⟩
theorem word4_wordB {n : Int} (h : 0 ≤ n ∧ n < 4294967296) : word4 (wordB n) = n := by
  unfold word4 wordB
  simp only [List.getD_cons_zero, List.getD_cons_succ]
  omega
theorem wordB_word4 {a b c d : Int} (ha : isByte a) (hb : isByte b) (hc : isByte c) (hd : isByte d) : wordB (word4 [a, b, c, d]) = [a, b, c, d] ∧ 0 ≤ word4 [a, b, c, d] ∧ word4 [a, b, c, d] < 4294967296 := by
  obtain ⟨a1, a2⟩ := ha
  obtain ⟨b1, b2⟩ := hb
  obtain ⟨c1, c2⟩ := hc
  obtain ⟨d1, d2⟩ := hd
  have e : word4 [a, b, c, d] = a + 256 * b + 65536 * c + 16777216 * d := rfl
  refine ⟨?_, by rw [e]; omega, by rw [e]; omega⟩
  rw [e]
  unfold wordB
  rw [show (a + 256 * b + 65536 * c + 16777216 * d) % 256 = a by omega, show (a + 256 * b + 65536 * c + 16777216 * d) / 256 % 256 = b by omega, show (a + 256 * b + 65536 * c + 16777216 * d) / 65536 % 256 = c by omega, show (a + 256 * b + 65536 * c + 16777216 * d) / 16777216 % 256 = d by omega]

theorem rWord_reads : Reads rWord wordB (fun n => 0 ≤ n ∧ n < 4294967296) where
  full := by
    intro x r hx
    unfold rWord
    rw [rSome_full (wordB x) r 4 rfl]
    show (word4 (wordB x), some r) = _
    rw [word4_wordB hx]
  sound := by
    intro b x r hb h
    unfold rWord at h
    obtain ⟨l, s, hs⟩ : ∃ l s, rSome 4 (some b) = (l, s) := ⟨_, _, rfl⟩
    rw [hs] at h
    simp only [Prod.mk.injEq] at h
    obtain ⟨rfl, rfl⟩ := h
    obtain ⟨rfl, hl⟩ := rSome_sound hs
    match l, hl with
    | [y1, y2, y3, y4], _ =>
      have := wordB_word4 (hb y1 (by simp)) (hb y2 (by simp)) (hb y3 (by simp)) (hb y4 (by simp))
      exact ⟨by rw [this.1], this.2⟩
  bad := rfl

theorem rCount_reads {f : St → Int × St} {enc : Int → List Int} {ok : Int → Prop} (h : Reads f enc ok) (most : Int) (hm : 0 ≤ most) : Reads (fun s => rCount most (f s)) enc (fun n => ok n ∧ n ≤ most) where
  full := by
    intro x r ⟨hx, hle⟩
    show rCount most (f (some (enc x ++ r))) = _
    rw [h.full x r hx]
    unfold rCount
    rw [if_neg (by show ¬ most < x; omega)]
  sound := by
    intro b x r hb e
    unfold rCount at e
    split at e
    · cases e
    · rename_i hlt
      obtain ⟨h1, h2⟩ := h.sound b x r hb e
      rw [e] at hlt
      exact ⟨h1, h2, Int.not_lt.1 hlt⟩
  bad := by
    show (rCount most (f none)).2 = none
    unfold rCount
    split
    · rfl
    · exact h.bad

theorem rName_reads (most : Int) (h0 : 0 ≤ most) (hm : most ≤ 255) : Reads (rName most) nameB (fun s => (s.size : Int) ≤ most) where
  full := by
    intro x r hx
    have h : rCount most (rByte (some (nameB x ++ r))) = ((x.size : Int), some (bytesI x ++ r)) := (rCount_reads rByte_reads most h0).full x.size (bytesI x ++ r) ⟨⟨by omega, by omega⟩, hx⟩
    unfold rName
    rw [h]
    simp only [Int.toNat_natCast]
    rw [rSome_full (bytesI x) r x.size (bytesI_len x)]
    simp only
    rw [strL_bytesI]
  sound := by
    intro b x r hb e
    unfold rName at e
    obtain ⟨n, s, hs⟩ : ∃ n s, rCount most (rByte (some b)) = (n, s) := ⟨_, _, rfl⟩
    rw [hs] at e
    simp only at e
    cases s with
    | none => rw [rSome_bad] at e; cases e
    | some c =>
      obtain ⟨h1, h2, h3⟩ := (rCount_reads rByte_reads most h0).sound b n c hb hs
      obtain ⟨l, t, ht⟩ : ∃ l t, rSome n.toNat (some c) = (l, t) := ⟨_, _, rfl⟩
      rw [ht] at e
      simp only [Prod.mk.injEq] at e
      obtain ⟨rfl, rfl⟩ := e
      obtain ⟨rfl, hl⟩ := rSome_sound ht
      have hbl : ∀ y ∈ l, isByte y := fun y hy => hb y (by rw [h1]; simp [hy])
      have hn := h2.1
      refine ⟨?_, by rw [strL_size]; omega⟩
      rw [h1]
      unfold nameB
      rw [bytesI_strL hbl, strL_size, show (l.length : Int) = n by omega]
      rfl
  bad := by
    unfold rName
    have : (rCount most (rByte none)).2 = none := (rCount_reads rByte_reads most h0).bad
    rw [this]
    rfl

theorem rLoop_reads {α : Type} {f : St → α × St} {enc : α → List Int} {ok : α → Prop} (h : Reads f enc ok) : ∀ n, Reads (rLoop f n) (fun l => l.flatMap enc) (fun l => l.length = n ∧ ∀ x ∈ l, ok x)
  | 0 => { full := by
             intro x r ⟨h1, _⟩
             obtain rfl := List.length_eq_zero_iff.1 h1
             rfl
           sound := by
             intro b x r _ e
             unfold rLoop at e
             simp only [Prod.mk.injEq, Option.some.injEq] at e
             obtain ⟨rfl, rfl⟩ := e
             exact ⟨rfl, rfl, fun x hx => by cases hx⟩
           bad := rfl }
  | n + 1 => { full := by
                 intro x r ⟨h1, h2⟩
                 match x, h1 with
                 | y :: l, h1 =>
                   rw [List.flatMap_cons, List.append_assoc]
                   unfold rLoop
                   rw [h.full y _ (h2 y (by simp))]
                   simp only
                   rw [(rLoop_reads h n).full l r ⟨by simpa using h1, fun z hz => h2 z (by simp [hz])⟩]
               sound := by
                 intro b x r hb e
                 unfold rLoop at e
                 obtain ⟨y, s, hs⟩ : ∃ y s, f (some b) = (y, s) := ⟨_, _, rfl⟩
                 rw [hs] at e
                 obtain ⟨l, t, ht⟩ : ∃ l t, rLoop f n s = (l, t) := ⟨_, _, rfl⟩
                 simp only at e
                 rw [ht] at e
                 simp only [Prod.mk.injEq] at e
                 obtain ⟨rfl, rfl⟩ := e
                 obtain ⟨c, rfl⟩ := (rLoop_reads h n).from ht
                 obtain ⟨rfl, h2⟩ := h.sound b y c hb hs
                 obtain ⟨rfl, h3, h4⟩ := (rLoop_reads h n).sound c l r (fun z hz => hb z (by simp [hz])) ht
                 refine ⟨by rw [List.flatMap_cons, List.append_assoc], by rw [List.length_cons, h3], fun z hz => ?_⟩
                 rcases List.mem_cons.1 hz with rfl | hz
                 · exact h2
                 · exact h4 z hz
               bad := by
                 unfold rLoop
                 show (rLoop f n (f none).2).2 = none
                 rw [h.bad]
                 exact (rLoop_reads h n).bad }

/-- two, one after the other. -/
theorem Reads.pair {α β : Type} {f : St → α × St} {g : St → β × St} {e1 : α → List Int} {e2 : β → List Int} {o1 : α → Prop} {o2 : β → Prop} (hf : Reads f e1 o1) (hg : Reads g e2 o2) :
    Reads (fun s => (((f s).1, (g (f s).2).1), (g (f s).2).2)) (fun x => e1 x.1 ++ e2 x.2) (fun x => o1 x.1 ∧ o2 x.2) where
  full := by
    intro x r ⟨h1, h2⟩
    try simp only
    rw [List.append_assoc, hf.full _ _ h1]
    simp only
    rw [hg.full _ _ h2]
  sound := by
    intro b x r hb e
    obtain ⟨y, s, hs⟩ : ∃ y s, f (some b) = (y, s) := ⟨_, _, rfl⟩
    try simp only at e
    rw [hs] at e
    obtain ⟨z, t, ht⟩ : ∃ z t, g s = (z, t) := ⟨_, _, rfl⟩
    simp only at e
    rw [ht] at e
    simp only [Prod.mk.injEq] at e
    obtain ⟨rfl, rfl⟩ := e
    obtain ⟨c, rfl⟩ := hg.from ht
    obtain ⟨rfl, h2⟩ := hf.sound b y c hb hs
    obtain ⟨rfl, h3⟩ := hg.sound c z r (fun u hu => hb u (by simp [hu])) ht
    exact ⟨by rw [List.append_assoc], h2, h3⟩
  bad := by
    show (g (f none).2).2 = none
    rw [hf.bad]
    exact hg.bad
/-- said otherwise. -/
theorem Reads.map {α β : Type} {f : St → α × St} {e1 : α → List Int} {o1 : α → Prop} (hf : Reads f e1 o1) (p : α → β) (q : β → α) (hq : ∀ y, p (q y) = y) (hp : ∀ x, q (p x) = x) :
    Reads (fun s => (p (f s).1, (f s).2)) (fun y => e1 (q y)) (fun y => o1 (q y)) where
  full := by
    intro x r h
    try simp only
    rw [hf.full _ _ h]
    simp only
    rw [hq]
  sound := by
    intro b x r hb e
    obtain ⟨y, s, hs⟩ : ∃ y s, f (some b) = (y, s) := ⟨_, _, rfl⟩
    try simp only at e
    rw [hs] at e
    simp only [Prod.mk.injEq] at e
    obtain ⟨rfl, rfl⟩ := e
    rw [hp]
    exact hf.sound b y r hb hs
  bad := hf.bad

/-- a list, its length ahead. -/
theorem Reads.counted {α : Type} {c : St → Int × St} {ec : Int → List Int} {oc : Int → Prop} (hc : Reads c ec oc) (h0 : ∀ n, oc n → 0 ≤ n) {f : Nat → St → α × St} {e : α → List Int} {ok : Nat → α → Prop} {len : α → Nat} (hf : ∀ n, Reads (f n) e (fun l => len l = n ∧ ok n l)) :
    Reads (fun s => f (c s).1.toNat (c s).2) (fun l => ec (len l) ++ e l) (fun l => oc (len l) ∧ ok (len l) l) where
  full := by
    intro x r ⟨h1, h2⟩
    try simp only
    rw [List.append_assoc, hc.full _ _ h1]
    simp only [Int.toNat_natCast]
    exact (hf _).full x r ⟨rfl, h2⟩
  sound := by
    intro b x r hb h
    obtain ⟨n, s, hs⟩ : ∃ n s, c (some b) = (n, s) := ⟨_, _, rfl⟩
    try simp only at h
    rw [hs] at h
    simp only at h
    obtain ⟨d, rfl⟩ := (hf n.toNat).from h
    obtain ⟨rfl, h2⟩ := hc.sound b n d hb hs
    obtain ⟨rfl, h3, h4⟩ := (hf n.toNat).sound d x r (fun u hu => hb u (by simp [hu])) h
    have := h0 n h2
    have e' : (len x : Int) = n := by omega
    rw [e', h3]
    exact ⟨by rw [List.append_assoc], h2, h4⟩
  bad := by
    show (f (c none).1.toNat (c none).2).2 = none
    rw [hc.bad]
    exact (hf _).bad
theorem rSome_reads (n : Nat) : Reads (rSome n) (fun l => l) (fun l => l.length = n ∧ ∀ x ∈ l, isByte x) where
  full := fun x r h => rSome_full x r n h.1
  sound := by
    intro b x r hb h
    obtain ⟨rfl, h2⟩ := rSome_sound h
    exact ⟨rfl, h2, fun y hy => hb y (by simp [hy])⟩
  bad := rfl

end Go.Proofs.Ytfnibpkojhgflaa
