/- What the walk of the reference's Scan is told: its result on its way; errors' ends; a symbol added. -/
import Derived.Test.YtdgiijidgjagbaaRefSign
import Derived.Test.YtdgiijidgjagbaaRefNumber
import Derived.Test.YtdgiijidgjagbaaScanLaws
import Derived.Test.YtdgiijidgjagbaaScanPub
import Derived.Test.YtdgiijidgjagbaaSepMore
import Derived.Test.YtdgiijidgjagbaaAppAt
import Derived.Test.YtdgiijidgjagbaaCutRun
import Derived.Test.YtdgiijidgjagbaaSepApp
import Derived.Outline
namespace Go.Proofs.Ytdgiijidgjagbaa
set_option linter.unusedVariables false
set_option linter.unusedSimpArgs false
open Go.RowKit

def symC (x : Sym) : List Value := [.int .i64 x.sym, .int .i64 x.pos, .int .i32 x.val, .int .i64 x.id, nameV x.text]
def symsC (ys : List Sym) : List Value := ys.flatMap symC
theorem symsC_len (ys : List Sym) : (symsC ys).length = ys.length * 5 := by
  unfold symsC
  induction ys with
  | nil => rfl
  | cons y l ih => rw [List.flatMap_cons, List.length_append, ih, List.length_cons]; simp [symC]; omega
theorem symsC_snoc (ys : List Sym) (y : Sym) : symsC (ys ++ [y]) = symsC ys ++ symC y := by unfold symsC; rw [List.flatMap_append]; simp
theorem et_sym : ET Try.prog 38 30 (.agg #[.int .i64 0, .int .i64 0, .int .i32 0, .int .i64 0, .string ⟨#[]⟩]) 5 48 := ET.of Try.underlying38 (by kernel_rfl) (by decide) (by decide)

/-- the result on its way: the cell that is returned, the one that is filled, its symbols and names. -/
structure RS (B : Nat) (w : World) (g2 g3 : Nat) (A N : Value) (ys : List Sym) (nms : List (List UInt8)) : Prop where
  sep : Sep w [(g3, #[A, N, .int .i64 0, .int .i64 0], 42), (g2, #[.slice none 0 0, .slice none 0 0, .int .i64 0, .int .i64 0], 42)]
  b2 : B ≤ g2
  b3 : B ≤ g3
  a : w.ownsRow B 30 5 A ys.length (symsC ys)
  n : w.ownsRow B 9 1 N nms.length (nms.map nameV)
variable {B : Nat} {w w' : World} {g2 g3 : Nat} {A N : Value} {ys : List Sym} {nms : List (List UInt8)} {np : Option Addr} {nc : Nat}
theorem RS.bel (h : RS B w g2 g3 A N ys nms) (k : Below w.heap.size w w') : RS B w' g2 g3 A N ys nms :=
  ⟨h.sep.bel k, h.b2, h.b3, ownsRow_ke h.a (Ke.below Non k) (fun _ _ h => h), ownsRow_ke h.n (Ke.below Non k) (fun _ _ h => h)⟩

theorem own_litC {w : World} {g B : Nat} {e : TypeId} {xs : List Value} (h : At w g xs.toArray e) (n : Nat) (hn : xs.length = n) (hm : n ≤ maxLen) (hB : B ≤ g) : w.ownsRow B e 1 (.slice (some ⟨g, 0, none⟩) n n) n xs :=
  ⟨by omega, .inr ⟨g, n, xs.toArray, rfl, hB, h, Nat.le_refl _, hm, by simp [hn], by simp [← hn]⟩⟩
theorem rd_atC {w : World} {g : Nat} {e : TypeId} {xs : List Value} {n : Nat} (h : At w g xs.toArray e) (hn : xs.length = n) (hm : n ≤ maxLen) : RdC w (some ⟨g, 0, none⟩) n n xs := by
  refine ⟨⟨g, 0, fun _ => ⟨rfl, h.lt⟩, fun j u hj => ?_⟩, (fun h => by cases h), Nat.le_refl _, hm⟩
  rw [Nat.zero_add, h.cell]; simpa using hj
/-- the result. -/
def ScanRes (S : List Int) (w : World) (e : Ending) (w' : World) : Prop := ∃ (A N : Value) (m : Nat) (E P : Int) (nms : List (List UInt8)),
  e = .returned (.agg #[A, N, .int .i64 E, .int .i64 P]) ∧ Below w.heap.size w w' ∧
  w'.ownsRow w.heap.size 30 5 A m (symsC ((List.range m).map fun j => (gets (newS S) j).sym)) ∧ w'.ownsRow w.heap.size 9 1 N nms.length (nms.map nameV) ∧
  ((E = 0 ∧ P = 0 ∧ ∃ k, m = k + 1 ∧ Syms S k ∧ nms = (gets (newS S) k).names) ∨ (E ≠ 0 ∧ (∀ j, j < m → (gets (newS S) j).sym.sym ≠ 0) ∧ (gets (newS S) m).err = E ∧ (gets (newS S) m).pos = P ∧ nms = (gets (newS S) m).names))

theorem ownsRow_type5 {w : World} {base n size : Nat} {e t : TypeId} {v : Value} {xs : List Value} {g : Nat} {cs : Array Value} (h : w.ownsRow base e size v n xs) (ha : At w g cs t) (ht : e ≠ t) : v.ownBlock ≠ some g := by
  obtain ⟨_, h3⟩ := h
  rcases h3 with ⟨rfl, _⟩ | ⟨b, cap, cur, rfl, _, q3, _⟩
  · simp [Value.ownBlock]
  · intro e'
    have : b = g := by simpa [Value.ownBlock] using e'
    subst this
    unfold At at ha
    rw [q3] at ha
    simp only [Option.some.injEq, Obj.cells.injEq] at ha
    exact ht ha.2.1
theorem ownsRow_apart5 {w : World} {base n size base' n' size' : Nat} {e t : TypeId} {v v' : Value} {xs xs' : List Value} (h : w.ownsRow base e size v n xs) (h' : w.ownsRow base' t size' v' n' xs') (ht : e ≠ t) (b : Nat) (hb : v.ownBlock = some b) : v'.ownBlock ≠ some b := by
  obtain ⟨_, h3⟩ := h'
  rcases h3 with ⟨rfl, _⟩ | ⟨g, cap, cur, rfl, _, q3, _⟩
  · simp [Value.ownBlock]
  · intro e'
    have : g = b := by simpa [Value.ownBlock] using e'
    subst this
    exact ownsRow_type5 h (show At w g cur t from q3) ht hb

theorem RS.rows (h : RS B w g2 g3 A N ys nms) (k : Ke (fun i => i = g3 ∨ i = g2) w w') : w'.ownsRow B 30 5 A ys.length (symsC ys) ∧ w'.ownsRow B 9 1 N nms.length (nms.map nameV) :=
  ⟨ownsRow_ke h.a k (fun i hi e => by rcases e with rfl | rfl; exact ownsRow_type5 h.a (h.sep.at 0 rfl) (by decide) hi; exact ownsRow_type5 h.a (h.sep.at 1 rfl) (by decide) hi),
   ownsRow_ke h.n k (fun i hi e => by rcases e with rfl | rfl; exact ownsRow_type5 h.n (h.sep.at 0 rfl) (by decide) hi; exact ownsRow_type5 h.n (h.sep.at 1 rfl) (by decide) hi)⟩
/-- the symbols' row was written by an append. -/
theorem RS.growA (h : RS B w g2 g3 A N ys nms) (hg : w.grownBy w' A.ownBlock) : Sep w' [(g3, #[A, N, .int .i64 0, .int .i64 0], 42), (g2, #[.slice none 0 0, .slice none 0 0, .int .i64 0, .int .i64 0], 42)] ∧ w'.ownsRow B 9 1 N nms.length (nms.map nameV) := by
  have k := Ke.ofGrown hg
  refine ⟨h.sep.ke k (fun e he hb => ?_), ownsRow_ke h.n k (fun i hi hb => ownsRow_apart5 h.n h.a (by decide) i hi hb)⟩
  rcases List.mem_cons.1 he with rfl | he
  · exact ownsRow_type5 h.a (h.sep.at 0 rfl) (by decide) hb
  · rw [List.mem_singleton] at he; subst he; exact ownsRow_type5 h.a (h.sep.at 1 rfl) (by decide) hb
/-- the names' row was. -/
theorem RS.growN (h : RS B w g2 g3 A N ys nms) (hg : w.grownBy w' N.ownBlock) : Sep w' [(g3, #[A, N, .int .i64 0, .int .i64 0], 42), (g2, #[.slice none 0 0, .slice none 0 0, .int .i64 0, .int .i64 0], 42)] ∧ w'.ownsRow B 30 5 A ys.length (symsC ys) := by
  have k := Ke.ofGrown hg
  refine ⟨h.sep.ke k (fun e he hb => ?_), ownsRow_ke h.a k (fun i hi hb => ownsRow_apart5 h.a h.n (by decide) i hi hb)⟩
  rcases List.mem_cons.1 he with rfl | he
  · exact ownsRow_type5 h.n (h.sep.at 0 rfl) (by decide) hb
  · rw [List.mem_singleton] at he; subst he; exact ownsRow_type5 h.n (h.sep.at 1 rfl) (by decide) hb
/-- a row lies on while another block is written. -/
theorem row_on {base n size : Nat} {e t : TypeId} {v : Value} {xs : List Value} {g : Nat} {cs : Array Value} (h : w.ownsRow base e size v n xs) (ha : At w g cs t) (ht : e ≠ t) (k : Ke (· = g) w w') : w'.ownsRow base e size v n xs :=
  ownsRow_ke h k (fun i hi e' => by subst e'; exact ownsRow_type5 h ha ht hi)

/-- where the loop stands. -/
structure Rd (l : List Int) (w wr : World) (g2 g3 : Nat) (m i : Nat) (A N : Value) (nms : List (List UInt8)) : Prop where
  at' : (gets (Sc.fresh l) m).at' = i
  fine : Fine l (gets (Sc.fresh l) m)
  ne : ∀ j, j < m → (gets (newS l) j).sym.sym ≠ 0
  nm : (gets (Sc.fresh l) m).names = nms
  mi : m ≤ i
  nd : nms.Nodup
  nl : nms.length ≤ 700
  rs : RS w.heap.size wr g2 g3 A N ((List.range m).map fun j => (gets (newS l) j).sym) nms
  bel : Below w.heap.size w wr
theorem Rd.kw {l : List Int} {w wr : World} {g2 g3 m i : Nat} {A N : Value} {nms : List (List UInt8)} (h : Rd l w wr g2 g3 m i A N nms) : Kw nms := h.nm ▸ h.fine.kw
theorem Rd.le {l : List Int} {w wr : World} {g2 g3 m i : Nat} {A N : Value} {nms : List (List UInt8)} (h : Rd l w wr g2 g3 m i A N nms) : i ≤ l.length := h.at' ▸ h.fine.le

/-- an error. -/
theorem Rd.fail {l : List Int} {w wr : World} {g2 g3 m i : Nat} {A N : Value} {nms : List (List UInt8)} (H : Rd l w wr g2 g3 m i A N nms) {u : Sc} (hu : (gets (Sc.fresh l) m).get = u) {E P : Int} (hE : u.err = E) (hP : u.pos = P) (hN : u.names = nms) (h0 : E ≠ 0)
    {wq w9 : World} (hb : Below wr.heap.size wr wq) (k : Ke (fun i => i = g3 ∨ i = g2) wq w9) : ScanRes l w (.returned (.agg #[A, N, .int .i64 E, .int .i64 P])) w9 := by
  have hq := H.rs.bel hb
  have hbw := bel_then H.bel hb
  obtain ⟨r1, r2⟩ := hq.rows k
  rw [List.length_map, List.length_range] at r1
  have hg : gets (newS l) m = u := by rw [gets_new]; exact hu
  refine ⟨A, N, m, E, P, nms, rfl, ((Ke.below _ hbw).trans k).toBelow (fun j hj e => ?_), r1, r2, .inr ⟨h0, H.ne, by rw [hg]; exact hE, by rw [hg]; exact hP, by rw [hg]; exact hN.symm⟩⟩
  have := hq.b2
  have := hq.b3
  omega
theorem range_snoc {α : Type} (f : Nat → α) (m : Nat) : (List.range (m + 1)).map f = (List.range m).map f ++ [f m] := by rw [List.range_succ, List.map_append]; rfl
/-- the end. -/
theorem Rd.done {l : List Int} {w wr : World} {g2 g3 m i : Nat} {A N : Value} {nms : List (List UInt8)} (H : Rd l w wr g2 g3 m i A N nms) (hu : (gets (Sc.fresh l) m).get = stand l l.length nms)
    {w9 : World} {A' : Value} (hb : Below w.heap.size w w9) (ha : w9.ownsRow w.heap.size 30 5 A' (m + 1) (symsC ((List.range m).map fun j => (gets (newS l) j).sym) ++ symC (Sym.at l.length))) (hn : w9.ownsRow w.heap.size 9 1 N nms.length (nms.map nameV)) :
    ScanRes l w (.returned (.agg #[A', N, .int .i64 0, .int .i64 0])) w9 := by
  have hg : gets (newS l) m = stand l l.length nms := by rw [gets_new]; exact hu
  have hs : (gets (newS l) m).sym = Sym.at l.length := by rw [hg]; rfl
  refine ⟨A', N, m + 1, 0, 0, nms, rfl, hb, ?_, hn, .inl ⟨rfl, rfl, m, rfl, ⟨H.ne, by rw [hs]; rfl, by rw [hg]; rfl⟩, by rw [hg]; rfl⟩⟩
  rw [range_snoc, symsC_snoc, hs]
  exact ha
/-- one symbol more. -/
theorem Rd.next {l : List Int} {w wr : World} {g2 g3 m i : Nat} {A N : Value} {nms : List (List UInt8)} (H : Rd l w wr g2 g3 m i A N nms) {x : Sym} {e : Nat} {nms' : List (List UInt8)} (hu : (gets (Sc.fresh l) m).get = ⟨l, e, x, nms', 0, 0⟩) (hx : x.sym ≠ 0) (hie : i < e) (he : e ≤ l.length)
    (hk : Kw nms') (nd : nms'.Nodup) (nl : nms'.length ≤ 700) {wz : World} {A' N' : Value} (sep : Sep wz [(g3, #[A', N', .int .i64 0, .int .i64 0], 42), (g2, #[.slice none 0 0, .slice none 0 0, .int .i64 0, .int .i64 0], 42)])
    (ha : wz.ownsRow w.heap.size 30 5 A' (m + 1) (symsC ((List.range m).map fun j => (gets (newS l) j).sym) ++ symC x)) (hn : wz.ownsRow w.heap.size 9 1 N' nms'.length (nms'.map nameV)) (hb : Below w.heap.size w wz) : Rd l w wz g2 g3 (m + 1) e A' N' nms' := by
  have hg : gets (Sc.fresh l) (m + 1) = ⟨l, e, x, nms', 0, 0⟩ := hu
  have hs : (gets (newS l) m).sym = x := by rw [gets_new, hg]
  refine ⟨by rw [hg], by rw [hg]; exact ⟨rfl, rfl, rfl, hk, he⟩, fun j hj => ?_, by rw [hg], by have := H.mi; omega, nd, nl, ⟨sep, H.rs.b2, H.rs.b3, ?_, hn⟩, hb⟩
  · rcases Nat.lt_or_ge j m with h | h
    · exact H.ne j h
    · obtain rfl : j = m := by omega
      rw [hs]; exact hx
  · rw [range_snoc, symsC_snoc, hs, List.length_append, List.length_map, List.length_range]
    exact ha

theorem blank_t {a : Option Addr} {c : Nat} {l : List Int} (h : RdI .u8 w a c l) (hl : l.length ≤ 65535) {i j : Nat} (hi : i ≤ l.length) (hb : blank l i = (true, j)) :
    Calls Try.prog 36 #[.slice a l.length c, .int .i64 i] w fun e w' => e = .returned (.tuple #[.int .i64 j, .int .i64 (-1)]) ∧ Below w.heap.size w w' :=
  (blank_walk h hl i hi).mono fun e w' hq => by unfold BlankIs at hq; rw [hb] at hq; exact hq
theorem blank_f {a : Option Addr} {c : Nat} {l : List Int} (h : RdI .u8 w a c l) (hl : l.length ≤ 65535) {i j : Nat} (hi : i ≤ l.length) (hb : blank l i = (false, j)) :
    Calls Try.prog 36 #[.slice a l.length c, .int .i64 i] w fun e w' => e = .returned (.tuple #[.int .i64 l.length, .int .i64 j]) ∧ Below w.heap.size w w' :=
  (blank_walk h hl i hi).mono fun e w' hq => by unfold BlankIs at hq; rw [hb] at hq; exact hq

/-- a slice of a source, and its text. -/
theorem cut_rd {b o c : Nat} {l : List Int} (h : RdI .u8 w (some ⟨b, o, none⟩) c l) (i j : Nat) (hij : i ≤ j) (hj : j ≤ l.length) : ∃ xb : ByteArray, nameV (byt (cut l i j)) = .string xb ∧
    (∀ W, (Instr.slice 23 (.slice (some ⟨b, o, none⟩) l.length c) (some (.int .i64 (i : Int))) (some (.int .i64 (j : Int))) none).run Try.prog W = .ok (.slice (cutV (some ⟨b, o, none⟩) c i) (j - i) (c - i)) W) ∧
    ∀ W, Below w.heap.size w W → (convert 23 9 (.slice (cutV (some ⟨b, o, none⟩) c i) (j - i) (c - i))).run Try.prog W = .ok (.string xb) W := by
  have hr := h.window i j hij hj (fun x hx => by cases hx; rfl)
  have hl : (cut l i j).length = j - i := hr.2
  refine ⟨⟨(byt (cut l i j)).toArray⟩, rfl, fun W => run_cut Try.underlying23 size_u8 hij hj h.row.le (fun h => by cases h) (fun x hx => by cases hx; rfl) W, fun W hW => ?_⟩
  have := run_str_of (P := Try.prog) (dst := 9) (hr.1.below hW (Nat.le_refl _)) Try.underlying23 Try.underlying5 Try.underlying9
  rw [show ((l.drop i).take (j - i)).length = j - i from hl] at this
  exact this

/-- the last place of a name among the first ones. -/
def idAt (U : List (List UInt8)) (x : List UInt8) (n : Nat) : Int := if x ∈ U.take n then (U.idxOf x : Int) else -1
theorem idAt_zero (U : List (List UInt8)) (x : List UInt8) : idAt U x 0 = -1 := by unfold idAt; simp
theorem take_get {U : List (List UInt8)} {n : Nat} (hn : n < U.length) : U.take (n + 1) = U.take n ++ [U.getD n []] := by
  rw [List.take_add_one, List.getElem?_eq_getElem hn, List.getD_eq_getElem?_getD, List.getElem?_eq_getElem hn]; rfl
theorem idAt_hit {U : List (List UInt8)} (hd : U.Nodup) {x : List UInt8} {n : Nat} (hn : n < U.length) (h : U.getD n [] = x) : idAt U x (n + 1) = n := by
  have hx : x ∈ U.take (n + 1) := by rw [take_get hn, h]; simp
  unfold idAt
  rw [if_pos hx]
  rw [List.getD_eq_getElem?_getD, List.getElem?_eq_getElem hn] at h
  simp only [Option.getD_some] at h
  subst h
  rw [List.Nodup.idxOf_getElem hd]
theorem idAt_no {U : List (List UInt8)} {x : List UInt8} {n : Nat} (hn : n < U.length) (h : U.getD n [] ≠ x) : idAt U x (n + 1) = idAt U x n := by
  have e : x ∈ U.take (n + 1) ↔ x ∈ U.take n := by
    rw [take_get hn, List.mem_append, List.mem_singleton]
    exact ⟨fun h' => h'.resolve_right (fun e => h e.symm), .inl⟩
  unfold idAt
  by_cases hx : x ∈ U.take n
  · rw [if_pos hx, if_pos (e.2 hx)]
  · rw [if_neg hx, if_neg (fun h' => hx (e.1 h'))]
theorem idAt_end (U : List (List UInt8)) (x : List UInt8) : idAt U x U.length = if x ∈ U then (U.idxOf x : Int) else -1 := by unfold idAt; rw [List.take_length]
theorem nodup_ins {U : List (List UInt8)} (h : U.Nodup) (x : List UInt8) : (ins U x).Nodup := by
  unfold ins
  split
  · exact h
  · rename_i hx
    exact List.nodup_append.2 ⟨h, by simp, fun y hy z hz => by simp at hz; subst hz; intro e; subst e; exact hx hy⟩

theorem num_read {l : List Int} {j : Nat} {U : List (List UInt8)} {w w' : World} {e : Ending} (hj : j < l.length) (hl : letterB (l.getD j 0) = false) (hd : digitB (l.getD j 0) = true) (h : NumIs l j w e w') :
    ∃ (sy v : Int) (E : Nat) (ok : Bool), e = .returned (.tuple #[.int .i64 sy, .int .i32 v, .int .i64 E, .bool ok]) ∧ Below w.heap.size w w' ∧ (sy = 26 ∨ sy = 27) ∧ j < E ∧
      ((ok = true ∧ (stand l j U).read = ⟨l, E, ⟨sy, j, v, 0, []⟩, U, 0, 0⟩) ∨ (ok = false ∧ (stand l j U).read.err = 2 ∧ (stand l j U).read.pos = j ∧ (stand l j U).read.names = U)) := by
  obtain ⟨v, ok, h1, h2, h3, h4⟩ := h.out
  have hy := run_yes (p := hexB) rfl (by unfold hexB; rw [hd]; rfl : hexB (l.getD j 0) = true)
  have hle := run_le (p := hexB) (s := l) (i := j + 1) (by omega)
  rw [← hy.1] at hle
  obtain ⟨K, hK⟩ : ∃ K, run hexB l j = K := ⟨_, rfl⟩
  rw [hK] at h1 h2 h3 hle
  refine ⟨_, v, if l.getD K 0 = 72 ∨ l.getD K 0 = 88 then K + 1 else K, ok, by rw [h1]; congr 5; split <;> simp, h4, by split <;> simp, by split <;> omega, ?_⟩
  rw [read_number hj hl hd]
  unfold Sc.number stand
  simp only [hK]
  by_cases hh : l.getD K 0 = 72 ∨ l.getD K 0 = 88
  · rw [if_pos hh] at h2 h3 ⊢
    rw [if_pos hh]
    by_cases hbad : 8 < sig (cut l j K) ∨ (l.getD K 0 = 88 ∧ 255 < hexN (cut l j K))
    · right
      rw [if_pos hbad]
      unfold Sc.mark
      rw [markAt_new rfl (by decide)]
      refine ⟨?_, rfl, rfl, rfl⟩
      rw [h2]
      rcases hbad with h | ⟨h, h'⟩
      · rw [decide_eq_true h]; rfl
      · rw [decide_eq_true h, decide_eq_true h']; simp
    · left
      have hok : ok = true := by
        rw [h2]
        have hb := not_or.1 hbad
        rw [decide_eq_false hb.1]
        by_cases h88 : l.getD K 0 = 88
        · rw [decide_eq_false (fun h => hb.2 ⟨h88, h⟩)]; simp
        · rw [decide_eq_false h88]; rfl
      refine ⟨hok, ?_⟩
      rw [if_neg hbad, h3 hok]
      rfl
  · rw [if_neg hh] at h2 h3 ⊢
    rw [if_neg hh]
    by_cases hbad : (cut l j K).all digitB = false ∨ 2147483647 < decN (cut l j K)
    · right
      rw [if_pos hbad]
      unfold Sc.mark
      rw [markAt_new rfl (by decide)]
      refine ⟨?_, rfl, rfl, rfl⟩
      rw [h2]
      rcases hbad with h | h
      · rw [decide_eq_true h]; rfl
      · rw [decide_eq_true h]; simp
    · left
      have hb := not_or.1 hbad
      have hok : ok = true := by
        rw [h2, decide_eq_false hb.1, decide_eq_false hb.2]; rfl
      refine ⟨hok, ?_⟩
      rw [if_neg hbad, h3 hok, if_neg (fun h => hh (.inr h))]
      rfl
theorem text_read {l : List Int} {j K : Nat} {U : List (List UInt8)} (hj : j < l.length) (h : l.getD j 0 = 34) (hK : run strB l (j + 1) = K) :
    ((l.getD K 0 = 34 ∧ K - (j + 1) ≤ 63) → (stand l j U).read = ⟨l, K + 1, ⟨28, j, if K - (j + 1) = 1 then l.getD (j + 1) 0 else 0, 0, byt (cut l (j + 1) K)⟩, U, 0, 0⟩) ∧
    (¬ (l.getD K 0 = 34 ∧ K - (j + 1) ≤ 63) → (stand l j U).read.err = 4 ∧ (stand l j U).read.pos = j ∧ (stand l j U).read.names = U) := by
  rw [read_text hj h]
  unfold Sc.text stand
  simp only [hK]
  refine ⟨fun hg => ?_, fun hb => ?_⟩
  · rw [if_neg (fun h' => by rcases h' with h' | h'; exact h' hg.1; omega)]; rfl
  · have hbad : l.getD K 0 ≠ 34 ∨ 63 < K - (j + 1) := by
      by_cases h1 : l.getD K 0 = 34
      · exact .inr (Nat.lt_of_not_le (fun h2 => hb ⟨h1, h2⟩))
      · exact .inl h1
    rw [if_pos hbad]
    unfold Sc.mark
    rw [markAt_new rfl (by decide)]
    exact ⟨rfl, rfl, rfl⟩

theorem RS.base (h : RS B w g2 g3 A N ys nms) : B ≤ w.heap.size := Nat.le_trans h.b3 (Nat.le_of_lt (h.sep.at 0 rfl).lt)
theorem grow_bel {w0 w w' : World} {e : TypeId} {size n : Nat} {v : Value} {xs : List Value} (hb : Below w0.heap.size w0 w) (own : w.ownsRow w0.heap.size e size v n xs) (hg : w.grownBy w' v.ownBlock) : Below w0.heap.size w0 w' :=
  ((Ke.below (fun i => w0.heap.size ≤ i) hb).trans ((Ke.ofGrown hg).mono (fun i _ e => (own.lt i e).1))).toBelow (fun i hi e => absurd hi (Nat.not_lt.2 e))
theorem set_bel {w0 w w' : World} {g : Nat} (hb : Below w0.heap.size w0 w) (hg : w0.heap.size ≤ g) (k : Ke (· = g) w w') : Below w0.heap.size w0 w' :=
  ((Ke.below (fun i => w0.heap.size ≤ i) hb).trans (k.mono (fun i _ e => by subst e; exact hg))).toBelow (fun i hi e => absurd hi (Nat.not_lt.2 e))
theorem rd_five (w : World) (C : Array Value) (t : TypeId) : RdC (w.alloc (.cells C t)) (some ⟨w.heap.size, 0, none⟩) 1 1 C.toList :=
  ⟨⟨w.heap.size, 0, fun _ => ⟨rfl, by simp⟩, fun j u hj => by rw [Nat.zero_add, (At.new w C t).cell]; simpa using hj⟩, fun h => (by cases h), Nat.le_refl _, by unfold maxLen; omega⟩

theorem num_lit {l : List Int} {j : Nat} {U : List (List UInt8)} (hj : j < l.length) (hl : letterB (l.getD j 0) = false) (hd : digitB (l.getD j 0) = true) :
    (∃ (sy v : Int) (E : Nat), (sy = 26 ∨ sy = 27) ∧ (stand l j U).read = ⟨l, E, ⟨sy, j, v, 0, []⟩, U, 0, 0⟩) ∨ ((stand l j U).read.err = 2 ∧ (stand l j U).read.pos = j ∧ (stand l j U).read.names = U) := by
  rw [read_number hj hl hd]
  unfold Sc.number stand
  simp only
  split
  · split
    · right
      unfold Sc.mark
      rw [markAt_new rfl (by decide)]
      exact ⟨rfl, rfl, rfl⟩
    · exact .inl ⟨_, _, _, by split <;> simp, rfl⟩
  · split
    · right
      unfold Sc.mark
      rw [markAt_new rfl (by decide)]
      exact ⟨rfl, rfl, rfl⟩
    · exact .inl ⟨26, _, _, .inl rfl, rfl⟩
theorem num_yes {a : Option Addr} {c : Nat} {l : List Int} (h : RdI .u8 w a c l) (hl : l.length ≤ 65535) {j : Nat} (hj : j < l.length) (hlt : letterB (l.getD j 0) = false) (hd : digitB (l.getD j 0) = true) {U : List (List UInt8)} {sy v : Int} {E : Nat} (hr : (stand l j U).read = ⟨l, E, ⟨sy, j, v, 0, []⟩, U, 0, 0⟩) :
    Calls Try.prog 40 #[.slice a l.length c, .int .i64 j] w fun e w' => e = .returned (.tuple #[.int .i64 sy, .int .i32 v, .int .i64 E, .bool true]) ∧ Below w.heap.size w w' :=
  (number_ref h hl j (by omega)).mono fun e w' hn => by
    obtain ⟨sy', v', E', ok, rfl, hb, _, _, hcs⟩ := num_read (U := U) hj hlt hd hn
    rcases hcs with ⟨rfl, h2⟩ | ⟨_, h2, _⟩
    · rw [hr] at h2
      simp only [Sc.mk.injEq, Sym.mk.injEq] at h2
      obtain ⟨_, rfl, ⟨rfl, _, rfl, _⟩, _⟩ := h2
      exact ⟨rfl, hb⟩
    · rw [hr] at h2; cases h2
theorem num_no {a : Option Addr} {c : Nat} {l : List Int} (h : RdI .u8 w a c l) (hl : l.length ≤ 65535) {j : Nat} (hj : j < l.length) (hlt : letterB (l.getD j 0) = false) (hd : digitB (l.getD j 0) = true) {U : List (List UInt8)} (hr : (stand l j U).read.err = 2) :
    Calls Try.prog 40 #[.slice a l.length c, .int .i64 j] w fun e w' => (∃ (sy v : Int) (E : Nat), e = .returned (.tuple #[.int .i64 sy, .int .i32 v, .int .i64 E, .bool false])) ∧ Below w.heap.size w w' :=
  (number_ref h hl j (by omega)).mono fun e w' hn => by
    obtain ⟨sy', v', E', ok, rfl, hb, _, _, hcs⟩ := num_read (U := U) hj hlt hd hn
    rcases hcs with ⟨rfl, h2⟩ | ⟨rfl, h2, _⟩
    · rw [h2] at hr; cases hr
    · exact ⟨⟨_, _, _, rfl⟩, hb⟩
theorem sign_yes {a : Option Addr} {c : Nat} {l : List Int} (h : RdI .u8 w a c l) (hl : l.length ≤ 65535) {j : Nat} (hj : j < l.length) {m : Int} {d : Nat} (hs : signN (l.getD j 0) (decide (l.getD (j + 1) 0 = 61)) = some (m, d)) :
    Calls Try.prog 41 #[.slice a l.length c, .int .i64 j] w fun e w' => e = .returned (.tuple #[.int .i64 m, .int .i64 ((j + d : Nat) : Int)]) ∧ Below w.heap.size w w' :=
  (sign_ref h hl j hj).mono fun e w' ⟨m', x, he, hb, hm⟩ => by
    rw [hs] at hm
    obtain ⟨rfl, rfl⟩ := hm
    exact ⟨he, hb⟩
theorem sign_no {a : Option Addr} {c : Nat} {l : List Int} (h : RdI .u8 w a c l) (hl : l.length ≤ 65535) {j : Nat} (hj : j < l.length) (hs : signN (l.getD j 0) (decide (l.getD (j + 1) 0 = 61)) = none) :
    Calls Try.prog 41 #[.slice a l.length c, .int .i64 j] w fun e w' => (∃ x : Int, e = .returned (.tuple #[.int .i64 0, .int .i64 x])) ∧ Below w.heap.size w w' :=
  (sign_ref h hl j hj).mono fun e w' ⟨m', x, he, hb, hm⟩ => by
    rw [hs] at hm
    subst hm
    exact ⟨⟨x, he⟩, hb⟩

theorem str_no {v : Int} (h : strB v = false) : v < 32 ∨ (32 ≤ v ∧ 127 ≤ v) ∨ v = 34 := by
  unfold strB at h
  simp only [Bool.and_eq_false_iff, decide_eq_false_iff_not, Bool.not_eq_false', decide_eq_true_eq] at h
  omega
theorem str_yes {v : Int} (h : strB v = true) : 32 ≤ v ∧ v < 127 ∧ v ≠ 34 := by
  unfold strB at h
  simp only [Bool.and_eq_true, decide_eq_true_eq, Bool.not_eq_true', decide_eq_false_iff_not] at h
  omega

theorem sep_grow {w w' : World} {L : List Row} {base n size : Nat} {e : TypeId} {v : Value} {xs : List Value} (S : Sep w L) (own : w.ownsRow base e size v n xs) (hg : w.grownBy w' v.ownBlock) (ht : ∀ r ∈ L, e ≠ r.2.2) : Sep w' L :=
  S.ke (Ke.ofGrown hg) (fun r hr hb => ownsRow_type5 own (S.row r hr) (ht r hr) hb)
theorem RS.ke (h : RS B w g2 g3 A N ys nms) {gx : Nat} (k : Ke (· = gx) w w') (h3 : g3 ≠ gx) (h2 : g2 ≠ gx) (ha : A.ownBlock ≠ some gx) (hn : N.ownBlock ≠ some gx) : RS B w' g2 g3 A N ys nms :=
  ⟨h.sep.ke k (fun e he => by rcases List.mem_cons.1 he with rfl | he; exact h3; rw [List.mem_singleton] at he; subst he; exact h2), h.b2, h.b3,
   ownsRow_ke h.a k (fun i hi e => by subst e; exact ha hi), ownsRow_ke h.n k (fun i hi e => by subst e; exact hn hi)⟩
/-- the names' cells. -/
theorem RS.name (h : RS B w g2 g3 A (.slice np nms.length nc) ys nms) : ∃ bn on, (0 < nms.length → np = some ⟨bn, on, none⟩) ∧ ∀ n, n < nms.length → w.cell? ⟨bn, on + n, none⟩ = some (nameV (nms.getD n [])) := by
  obtain ⟨p, d, he, hr⟩ := RdC.own h.n
  simp only [Value.slice.injEq] at he
  obtain ⟨rfl, _, rfl⟩ := he
  obtain ⟨bn, on, h1, h2⟩ := hr.at'
  refine ⟨bn, on, fun h0 => (h1 (by simpa using h0)).1, fun n hn => h2 n _ ?_⟩
  rw [List.getElem?_map, List.getElem?_eq_getElem hn, List.getD_eq_getElem?_getD, List.getElem?_eq_getElem hn]; rfl
theorem name_str {x y : List UInt8} {s t : ByteArray} (hx : nameV x = .string s) (hy : nameV y = .string t) : (s.toList == t.toList) = decide (x = y) := by
  have e : ∀ x : ByteArray, x.toList = x.data.toList := fun x => ByteArray.toList_eq x
  unfold nameV at hx hy
  simp only [Value.string.injEq] at hx hy
  subst hx; subst hy
  rw [e, e]
  by_cases h : x = y <;> simp [h]

theorem ty3 (g1 g2 g3 : Nat) (c1 c2 c3 : Array Value) : ∀ r ∈ ([(g1, c1, 30), (g2, c2, 42), (g3, c3, 42)] : List Row), (9 : TypeId) ≠ r.2.2 := by
  intro r hr
  simp only [List.mem_cons, List.not_mem_nil, or_false] at hr
  rcases hr with rfl | rfl | rfl
  · exact (by decide : (9 : TypeId) ≠ 30)
  · exact (by decide : (9 : TypeId) ≠ 42)
  · exact (by decide : (9 : TypeId) ≠ 42)

end Go.Proofs.Ytdgiijidgjagbaa
