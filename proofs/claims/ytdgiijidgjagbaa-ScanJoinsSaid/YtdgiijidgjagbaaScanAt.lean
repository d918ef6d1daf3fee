/- Layer 11's scanner in memory: what its blocks hold; how that goes on beside what else is done. -/
import Derived.Test.YtdgiijidgjagbaaScanPlain
import Derived.Test.YtdgiijidgjagbaaSepMore
import Derived.Maps.OwnSet
import Derived.Test.YtdgiijidgjagbaaChecked
namespace Go.Proofs.Ytdgiijidgjagbaa
set_option linter.unusedVariables false
set_option linter.unusedSimpArgs false
open Go.RowKit

/-- a name as a value. -/
def nameV (x : List UInt8) : Value := .string ⟨x.toArray⟩
def lit64 (k : Nat) : DataW Unit := .lit (.int .i64 k)
def idsF (D : DataW Unit) (k : Nat) : List (List UInt8) → DataW Unit
  | [] => D
  | x :: l => idsF (D.put (.string x) (lit64 k)) (k + 1) l
/-- the numbers of names, as a map reads. -/
def idsD (l : List (List UInt8)) : DataW Unit := idsF (.map []) 0 l

theorem idsF_snoc (x : List UInt8) : ∀ (l : List (List UInt8)) (D : DataW Unit) (k : Nat), idsF D k (l ++ [x]) = (idsF D k l).put (.string x) (lit64 (k + l.length))
  | [], D, k => by simp [idsF]
  | y :: l, D, k => by
    rw [List.cons_append, idsF, idsF_snoc x l, idsF, List.length_cons]
    congr 2; omega
theorem idsD_snoc (l : List (List UInt8)) (x : List UInt8) : idsD (l ++ [x]) = (idsD l).put (.string x) (lit64 l.length) := by
  unfold idsD; rw [idsF_snoc, Nat.zero_add]

structure Sc.Ok (s : Sc) : Prop where
  le : s.at' ≤ s.src.length
  len : s.src.length ≤ 65535
  bd : ∀ x ∈ s.src, 0 ≤ x ∧ x < 256
  nm : s.names.length ≤ 700
  nd : s.names.Nodup
  nl : ∀ x ∈ s.names, x.length ≤ 100000
theorem Sc.Ok.byte {s : Sc} (h : s.Ok) (i : Nat) : 0 ≤ s.src.getD i 0 ∧ s.src.getD i 0 < 256 := by
  rcases Nat.lt_or_ge i s.src.length with hi | hi
  · rw [List.getD_eq_getElem?_getD, List.getElem?_eq_getElem hi]; exact h.bd _ (List.getElem_mem hi)
  · rw [getD_end hi]; decide

def Sc.cells (s : Sc) (A n m : Value) : Array Value := #[A, .int .i64 s.at', .int .i64 s.sym.sym, .int .i64 s.sym.pos, .int .i32 s.sym.val, .int .i64 s.sym.id, nameV s.sym.text, n, m, .int .i64 s.err, .int .i64 s.pos]

/-- a scanner lies at block g; the blocks in F are none of its. -/
structure ScnX (F : Nat → Prop) (w : World) (g : Nat) (s : Sc) (a : Option Addr) (c : Nat) (n : Value) (m : Nat) : Prop where
  at' : At w g (s.cells (.slice a s.src.length c) n (.map (some m))) 52
  src : w.ownsRow 0 5 1 (.slice a s.src.length c) s.src.length (s.src.map (Value.int .u8))
  nms : w.ownsRow 0 9 1 n s.names.length (s.names.map nameV)
  ids : w.ownsMap Try.prog 9 (plainElem Try.prog 3) m s.names.length (idsD s.names)
  fg : ¬ F g
  fm : ¬ F m
  fn : ∀ b, n.ownBlock = some b → ¬ F b
  fa : ∀ b, (Value.slice a s.src.length c).ownBlock = some b → ¬ F b
  ok : s.Ok
def Scn (F : Nat → Prop) (w : World) (g : Nat) (s : Sc) : Prop := ∃ a c n m, ScnX F w g s a c n m

theorem ownsRow_ke {G : Nat → Prop} {w w' : World} {base size n : Nat} {e : TypeId} {v : Value} {xs : List Value} (h : w.ownsRow base e size v n xs) (k : Ke G w w') (hv : ∀ i, v.ownBlock = some i → ¬ G i) : w'.ownsRow base e size v n xs := by
  obtain ⟨h2, h3⟩ := h
  refine ⟨h2, ?_⟩
  rcases h3 with h3 | ⟨b, cap, cur, rfl, q2, q3, q4⟩
  · exact .inl h3
  · exact .inr ⟨b, cap, cur, rfl, q2, (k.block b (Array.getElem?_eq_some_iff.1 q3).1 (hv b rfl)).trans q3, q4⟩
theorem ownsMap_ke {P : Program} {G : Nat → Prop} {w w' : World} {k : TypeId} {R : Value → Option (DataW Unit × List MemPlace)} {b n : Nat} {D : DataW Unit} (h : w.ownsMap P k R b n D) (q : Ke G w w') (hb : ¬ G b) : w'.ownsMap P k R b n D := by
  have hlt := h.lt
  obtain ⟨es, clock, h1, h2⟩ := h
  exact ⟨es, clock, (q.block b hlt hb).trans h1, h2⟩
theorem ownsRow_type {w : World} {base n : Nat} {e t : TypeId} {v : Value} {xs : List Value} {g : Nat} {cs : Array Value} (h : w.ownsRow base e 1 v n xs) (ha : At w g cs t) (ht : e ≠ t) : v.ownBlock ≠ some g := by
  obtain ⟨_, h3⟩ := h
  rcases h3 with ⟨rfl, _⟩ | ⟨b, cap, cur, rfl, _, q3, _⟩
  · simp [Value.ownBlock]
  · intro e'
    have : b = g := by simpa [Value.ownBlock] using e'
    subst this
    unfold At at ha
    rw [q3] at ha
    simp only [Option.some.injEq, Obj.cells.injEq] at ha
    exact ht ha.2.1
theorem ownsRow_apart {w : World} {base n base' n' : Nat} {e t : TypeId} {v v' : Value} {xs xs' : List Value} (h : w.ownsRow base e 1 v n xs) (h' : w.ownsRow base' t 1 v' n' xs') (ht : e ≠ t) (b : Nat) (hb : v.ownBlock = some b) : v'.ownBlock ≠ some b := by
  obtain ⟨_, h3⟩ := h'
  rcases h3 with ⟨rfl, _⟩ | ⟨g, cap, cur, rfl, _, q3, _⟩
  · simp [Value.ownBlock]
  · intro e'
    have : g = b := by simpa [Value.ownBlock] using e'
    subst this
    exact ownsRow_type h (show At w g cur t from q3) ht hb
theorem ownsMap_at {P : Program} {w : World} {k : TypeId} {R : Value → Option (DataW Unit × List MemPlace)} {b n : Nat} {D : DataW Unit} {g : Nat} {cs : Array Value} {t : TypeId} (h : w.ownsMap P k R b n D) (ha : At w g cs t) : b ≠ g := by
  obtain ⟨es, clock, h1, h2⟩ := h
  rintro rfl
  unfold At at ha
  rw [h1] at ha
  cases ha
theorem ownsRow_map {P : Program} {w : World} {k : TypeId} {R : Value → Option (DataW Unit × List MemPlace)} {b n : Nat} {D : DataW Unit} {base n' : Nat} {e : TypeId} {v : Value} {xs : List Value} (h : w.ownsMap P k R b n D) (h' : w.ownsRow base e 1 v n' xs) : v.ownBlock ≠ some b := by
  obtain ⟨_, h3⟩ := h'
  rcases h3 with ⟨rfl, _⟩ | ⟨g, cap, cur, rfl, _, q3, _⟩
  · simp [Value.ownBlock]
  · intro e'
    have : g = b := by simpa [Value.ownBlock] using e'
    subst this
    exact ownsMap_at h (show At w g cur e from q3) rfl

variable {F : Nat → Prop} {w w' : World} {g : Nat} {s : Sc} {a : Option Addr} {c : Nat} {n : Value} {m : Nat}

/-- beside what else is done. -/
theorem ScnX.ke {G : Nat → Prop} (h : ScnX F w g s a c n m) (k : Ke G w w') (hg : ¬ G g) (hm : ¬ G m) (hn : ∀ b, n.ownBlock = some b → ¬ G b) (ha : ∀ b, (Value.slice a s.src.length c).ownBlock = some b → ¬ G b) : ScnX F w' g s a c n m :=
  ⟨h.at'.ke k hg, ownsRow_ke h.src k ha, ownsRow_ke h.nms k hn, ownsMap_ke h.ids k hm, h.fg, h.fm, h.fn, h.fa, h.ok⟩
theorem ScnX.bel (h : ScnX F w g s a c n m) (k : Below w.heap.size w w') : ScnX F w' g s a c n m := h.ke (Ke.below Non k) (fun h => h) (fun h => h) (fun _ _ h => h) (fun _ _ h => h)
theorem ScnX.drew (h : ScnX F w g s a c n m) : ScnX F w.drew g s a c n m := h.bel (Below.refl _ _).drew
theorem ScnX.scn (h : ScnX F w g s a c n m) : Scn F w g s := ⟨a, c, n, m, h⟩
/-- the block itself is written. -/
theorem ScnX.upd (h : ScnX F w g s a c n m) {s' : Sc} (ha : At w' g (s'.cells (.slice a s.src.length c) n (.map (some m))) 52) (k : Ke (· = g) w w') (h1 : s'.src = s.src) (h2 : s'.names = s.names) (h3 : s'.at' ≤ s.src.length) : ScnX F w' g s' a c n m := by
  refine ⟨by rw [h1]; exact ha, ?_, ?_, ?_, h.fg, h.fm, h.fn, by rw [h1]; exact h.fa, ⟨by rw [h1]; exact h3, by rw [h1]; exact h.ok.len, by rw [h1]; exact h.ok.bd, by rw [h2]; exact h.ok.nm, by rw [h2]; exact h.ok.nd, by rw [h2]; exact h.ok.nl⟩⟩
  · rw [h1]; exact ownsRow_ke h.src k (fun b hb e => by subst e; exact ownsRow_type h.src h.at' (by decide) hb)
  · rw [h2]; exact ownsRow_ke h.nms k (fun b hb e => by subst e; exact ownsRow_type h.nms h.at' (by decide) hb)
  · rw [h2]; exact ownsMap_ke h.ids k (ownsMap_at h.ids h.at')
/-- what a method may have done. -/
abbrev Off (F : Nat → Prop) : Nat → Prop := fun k => ¬ F k
theorem ScnX.off (h : ScnX F w g s a c n m) (k : Ke (· = g) w w') : Ke (Off F) w w' := k.mono (fun i _ e => by subst e; exact h.fg)

/-- the source's bytes. -/
theorem ScnX.rd (h : ScnX F w g s a c n m) : RdI .u8 w a c s.src := by
  obtain ⟨a', c', e, hr⟩ := RdI.own h.src (fun x hx => bd_u8' (h.ok.bd x hx))
  simp only [Value.slice.injEq] at e
  obtain ⟨rfl, _, rfl⟩ := e
  exact hr
theorem ScnX.names (h : ScnX F w g s a c n m) : ∃ p d, n = .slice p s.names.length d ∧ RdC w p s.names.length d (s.names.map nameV) := RdC.own h.nms

end Go.Proofs.Ytdgiijidgjagbaa
