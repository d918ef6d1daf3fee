/- Stores into the scanner's block, as laws on what it then is; contracts: MarkAt, Mark. -/
import Derived.Test.YtdgiijidgjagbaaScanOpens
namespace Go.Proofs.Ytdgiijidgjagbaa
set_option linter.unusedVariables false
set_option linter.unusedSimpArgs false
open Go.RowKit

def updCells (cs : Array Value) : Nat → List Value → Array Value
  | _, [] => cs
  | o, v :: r => updCells (cs.setIfInBounds o v) (o + 1) r
theorem setCells_at {g : Nat} {t : TypeId} : ∀ (vs : List Value) (o : Nat) {w : World} {cs : Array Value}, At w g cs t → At (w.setCells g o vs) g (updCells cs o vs) t
  | [], _, _, _, h => h
  | v :: r, o, w, cs, h => setCells_at r (o + 1) (setCell_at h o v)
theorem setCells_ke {g : Nat} : ∀ (vs : List Value) (o : Nat) {w : World}, Ke (· = g) w (w.setCells g o vs)
  | [], _, _ => Ke.refl _ _
  | v :: r, o, w => (Ke.setCell w ⟨g, o, none⟩ v).trans (setCells_ke r (o + 1))
theorem At.there {w : World} {g : Nat} {cs : Array Value} {t : TypeId} (h : At w g cs t) {o n : Nat} (hn : o + n ≤ cs.size) : w.there g o n := fun j hj => by
  refine ⟨?_, h.free _⟩
  rw [h.cell, Array.getElem?_eq_getElem (by omega)]; rfl

section
variable {P : Program} {ops : Array Oper} {rest : List Oper} {o : Oper} {act : Act} {Q : Exit → Act → World → Prop}
variable {F : Nat → Prop} {w w' : World} {g : Nat} {s : Sc} {a : Option Addr} {c : Nat} {n : Value} {m : Nat}

theorem scn_store1 (hgd : o.guard = none) (ty : TypeId) (x y : Operand) (ho : o.op = .store ty x y) (H : ScnX F w g s a c n m) (s' : Sc) {j : Nat} {v : Value}
    (hx : act.eval x = .pointer (some ⟨g, j, none⟩)) (hy : act.eval y = v) (hj : decide (j < 11) = true) (hi : (P.info? ty).map (·.size) = some 1) (h1 : v.oneCell' = true)
    (hc : (s.cells (.slice a s.src.length c) n (.map (some m))).setIfInBounds j v = s'.cells (.slice a s.src.length c) n (.map (some m))) (e1 : s'.src = s.src) (e2 : s'.names = s.names) (e3 : s'.at' ≤ s.src.length)
    (h : ∀ w', ScnX F w' g s' a c n m → Ke (· = g) w w' → w'.heap.size = w.heap.size → wpList P ops Q rest (act.put o.dst undef) w') : wpList P ops Q (o :: rest) act w := by
  refine store1_sep hgd ty x y ho (Sep.one H.at') 0 hx hy rfl hj hi h1 fun w' S k e => ?_
  have hA : At w' g (s'.cells (.slice a s.src.length c) n (.map (some m))) 52 := by rw [← hc]; exact S.at 0 rfl
  exact h w' (H.upd hA k e1 e2 e3) k e

theorem scn_store5 (hgd : o.guard = none) (ty : TypeId) (x y : Operand) (ho : o.op = .store ty x y) (H : ScnX F w g s a c n m) (s' : Sc) {vs : List Value}
    (hx : act.eval x = .pointer (some ⟨g, 2, none⟩)) (hy : act.eval y = .agg vs.toArray) (hl : vs.length = 5) (hi : (P.info? ty).map (·.size) = some 5) (h1 : ∀ v ∈ vs, v.oneCell' = true)
    (hc : updCells (s.cells (.slice a s.src.length c) n (.map (some m))) 2 vs = s'.cells (.slice a s.src.length c) n (.map (some m))) (e1 : s'.src = s.src) (e2 : s'.names = s.names) (e3 : s'.at' ≤ s.src.length)
    (h : ∀ w', ScnX F w' g s' a c n m → Ke (· = g) w w' → w'.heap.size = w.heap.size → wpList P ops Q rest (act.put o.dst undef) w') : wpList P ops Q (o :: rest) act w := by
  have hk := setCells_ke (g := g) vs 2 (w := w)
  have hA : At (w.setCells g 2 vs) g (s'.cells (.slice a s.src.length c) n (.map (some m))) 52 := by rw [← hc]; exact setCells_at vs 2 H.at'
  have hs : ∀ (vs : List Value) (o : Nat) (w : World), (w.setCells g o vs).heap.size = w.heap.size := by
    intro vs
    induction vs with
    | nil => intro o w; rfl
    | cons v r ih => intro o w; exact (ih (o + 1) _).trans (by simp [World.setCell])
  refine wpList_store_mid hgd ty x y ho g 2 vs.toArray hx hy (H.at'.there (by simp [hl, Sc.cells])) (by simpa [hl] using hi) (all_oneCell_toArray h1) ?_
  exact h _ (H.upd hA hk e1 e2 e3) hk (hs _ _ _)
end

def Done (F : Nat → Prop) (w : World) (g : Nat) (s' : Sc) (a : Option Addr) (c : Nat) (n : Value) (m : Nat) (e : Ending) (w' : World) : Prop :=
  e = .returned (.tuple #[]) ∧ ScnX F w' g s' a c n m ∧ Ke (· = g) w w' ∧ w'.heap.size = w.heap.size

variable {F : Nat → Prop} {w w' : World} {g : Nat} {s : Sc} {a : Option Addr} {c : Nat} {n : Value} {m : Nat}

set_option maxHeartbeats 1000000 in
theorem markat_walk (H : ScnX F w g s a c n m) (code pos : Int) :
    Calls Try.prog 16 #[.pointer (some ⟨g, 0, none⟩), .int .i64 code, .int .i64 pos] w (Done F w g (s.markAt code pos) a c n m) := by
  have c9 : w.cell? ⟨g, 9, none⟩ = some (.int .i64 s.err) := (H.at'.cell 9).trans rfl
  have HH := Lib.hid H
  have ht := there_walk H
  clear H
  by_cases h1 : s.err = 0
  · rw [h1] at c9
    by_cases h2 : code < 1
    · rw [show s.markAt code pos = s from by unfold Sc.markAt; rw [if_pos (.inr h2)]]
      clear h1
      go_enter Try.func16, Try.ntmps16
      go_wp2_with (refine ht.mono ?_; rintro e w' ⟨rfl, rfl⟩)
      go_end0
      exact ⟨rfl, HH.out, Ke.refl _ _, rfl⟩
    · have e1 : s.markAt code pos = { s with err := code, pos := pos, sym := Sym.at pos } := by unfold Sc.markAt; rw [if_neg (by omega)]
      rw [e1]
      clear h1 e1
      have f1 : True := trivial
      have f2 : True := trivial
      have f3 : True := trivial
      go_enter Try.func16, Try.ntmps16
      go_wp2_with (first | (refine ht.mono ?_; rintro e w' ⟨rfl, rfl⟩) | (have _f := f1; refine scn_store1 rfl 3 (.tmp 25) (.tmp 22) rfl HH.out { s with err := code } rfl rfl rfl (by kernel_rfl) rfl rfl rfl rfl HH.out.ok.le ?_; intro w1 H1 k1 z1; clear _f f1) | (have _f := f2; refine scn_store1 rfl 3 (.tmp 27) (.tmp 23) rfl H1 { s with err := code, pos := pos } rfl rfl rfl (by kernel_rfl) rfl rfl rfl rfl HH.out.ok.le ?_; intro w2 H2 k2 z2; clear _f f2) | (have _f := f3; refine scn_store5 rfl 30 (.tmp 32) (.tmp 30) rfl H2 { s with err := code, pos := pos, sym := Sym.at pos } (vs := [.int .i64 0, .int .i64 pos, .int .i32 0, .int .i64 0, .string ⟨#[]⟩]) rfl rfl rfl (by kernel_rfl) (by simp [Value.oneCell']) rfl rfl rfl HH.out.ok.le ?_; intro w3 H3 k3 z3; have HK := Lib.hid ((k1.trans k2).trans k3); have HZ := Lib.hid (z3.trans (z2.trans z1)); clear _f f3 k1 k2 k3 z1 z2 z3))
      go_end0
      exact ⟨rfl, H3, HK.out, HZ.out⟩
  · rw [show s.markAt code pos = s from by unfold Sc.markAt; rw [if_pos (.inl h1)]]
    have h1' : (s.err == 0) = false := by simpa using h1
    go_enter Try.func16, Try.ntmps16
    go_wp2_with (refine ht.mono ?_; rintro e w' ⟨rfl, rfl⟩)
    go_end0
    exact ⟨rfl, HH.out, Ke.refl _ _, rfl⟩

set_option maxHeartbeats 1000000 in
theorem mark_walk (H : ScnX F w g s a c n m) (code : Int) :
    Calls Try.prog 17 #[.pointer (some ⟨g, 0, none⟩), .int .i64 code] w (Done F w g (s.mark code) a c n m) := by
  have c3 : w.cell? ⟨g, 3, none⟩ = some (.int .i64 s.sym.pos) := (H.at'.cell 3).trans rfl
  have ht := there_walk H
  have hm := markat_walk H code s.sym.pos
  unfold Sc.mark
  clear H
  go_enter Try.func17, Try.ntmps17
  go_wp2_with (first | (refine ht.mono ?_; rintro e w' ⟨rfl, rfl⟩) | (refine hm.mono ?_; rintro e w1 ⟨rfl, h1, h2, h3⟩; have H1 := Lib.hid h1; have H2 := Lib.hid h2; have H3 := Lib.hid h3; clear h1 h2 h3))
  go_end0
  exact ⟨rfl, H1.out, H2.out, H3.out⟩

end Go.Proofs.Ytdgiijidgjagbaa
