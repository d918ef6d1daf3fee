/- The law's known rows. -/
import Derived.Test.YtkeaogphaifnmaaRiscStep3
import Derived.Test.YtkeaogphaifnmaaRiscPlain
import Derived.Test.YtkeaogphaifnmaaDef3
namespace Go.Proofs.Ytkeaogphaifnmaa
set_option linter.unusedVariables false
set_option linter.unusedSimpArgs false
open Go.RowKit

theorem def_call {P : Program} {l : List Oper} {R : World → Prop} {K : Act → Prop} {rest : List (List Nat × Nat)} {fin : List Nat} {a a1 : Act} {o : Oper} (v : Value) (hp : a.put o.dst v = a1)
    (h1 : ∀ x : Later R, o.wp P a x.w (fun a2 w2 => a2 = a.put o.dst v ∧ Below x.w.heap.size x.w w2) (fun _ _ _ => False)) (h2 : wpDefW P l (fun w' => ∃ x : Later R, w' = x.w) K rest fin a1) :
    ∃ v, (∀ w1, (∃ x : Later R, w1 = x.w) → ∀ o', some o = some o' → o'.wp P a w1 (fun a2 w2 => a2 = a.put o'.dst v ∧ Below w1.heap.size w1 w2) (fun _ _ _ => False)) ∧ ∀ o', some o = some o' → wpDefW P l (fun w' => ∃ x : Later R, w' = x.w) K rest fin (a.put o'.dst v) := by
  refine ⟨v, fun w1 hw o' ho' => ?_, fun o' ho' => ?_⟩
  · obtain ⟨x, rfl⟩ := hw
    cases ho'
    exact h1 x
  · cases ho'
    rw [hp]; exact h2

theorem def_post2 {P : Program} {Q : Exit → Act → World → Prop} {D E : Dv} {w0 : World} {b : Act} (hD : DvOk P b D) (hE : DvOk P b E)
    (h : ∀ g1 g2 w', Below w0.heap.size w0 w' → w0.heap.size ≤ g1 → w0.heap.size ≤ g2 → Sep w' [(g1, stored b D, D.ty), (g2, stored b E, E.ty)] → Q .normal ⟨setMany b.tmps [D.d, E.d] [.pointer (some ⟨g1, 0, none⟩), .pointer (some ⟨g2, 0, none⟩)], b.defers⟩ w') : DefPost (P := P) Q [D, E] w0 b := by
  refine ⟨fun X hX => ?_, fun gs w' hl hb hg hs => ?_⟩
  · rcases List.mem_cons.1 hX with rfl | hX
    · exact hD
    · rw [List.mem_singleton.1 hX]; exact hE
  · match gs, hl with
    | [g1, g2], _ => exact h g1 g2 w' hb (hg g1 (by simp)) (hg g2 (by simp)) hs
theorem def_post1 {P : Program} {Q : Exit → Act → World → Prop} {D : Dv} {w0 : World} {b : Act} (hD : DvOk P b D)
    (h : ∀ g1 w', Below w0.heap.size w0 w' → w0.heap.size ≤ g1 → Sep w' [(g1, stored b D, D.ty)] → Q .normal ⟨setMany b.tmps [D.d] [.pointer (some ⟨g1, 0, none⟩)], b.defers⟩ w') : DefPost (P := P) Q [D] w0 b := by
  refine ⟨fun X hX => ?_, fun gs w' hl hb hg hs => ?_⟩
  · rw [List.mem_singleton.1 hX]; exact hD
  · match gs, hl with
    | [g1], _ => exact h g1 w' hb (hg g1 (by simp)) hs

theorem step_quiet {c : Cpu} {x : Int} {d : Cpu} {v : Ev} {w : World} (hx : 0 ≤ x ∧ x < 4294967296) (hk : c.Ok) (h : c.step x = (d, v)) : Calls Try.prog 10 #[c.val, .int .u32 x] w fun e w' => e = .returned (.tuple #[d.val, v.val]) ∧ Below w.heap.size w w' :=
  (step_walk c x w hx hk).mono fun e w' hs => by unfold StepIs at hs; rw [h] at hs; exact hs

theorem def_seg {P : Program} {l : List Oper} {R : World → Prop} {K : Act → Prop} {qs : List Nat} {i : Nat} {rest : List (List Nat × Nat)} {fin : List Nat} {a : Act}
    (h : wpQuiet P l.toArray (fun w' => ∃ x : Later R, w' = x.w) (fun a' => ∃ v, (∀ w1, (∃ x : Later R, w1 = x.w) → ∀ o, nth l i = some o → o.wp P a' w1 (fun a2 w2 => a2 = a'.put o.dst v ∧ Below w1.heap.size w1 w2) (fun _ _ _ => False)) ∧
      ∀ o, nth l i = some o → wpDefW P l (fun w' => ∃ x : Later R, w' = x.w) K rest fin (a'.put o.dst v)) (pickOps l qs) a) : wpDefW P l (fun w' => ∃ x : Later R, w' = x.w) K ((qs, i) :: rest) fin a := h
theorem def_fin {P : Program} {l : List Oper} {R : World → Prop} {K : Act → Prop} {fin : List Nat} {a : Act} (h : wpQuiet P l.toArray (fun w' => ∃ x : Later R, w' = x.w) K (pickOps l fin) a) : wpDefW P l (fun w' => ∃ x : Later R, w' = x.w) K [] fin a := h

def kc1 : Cpu := ⟨fun j => if j = 1 then 5 else 0, 0, false, false, false, false, 0⟩
def kd1 : Cpu := ⟨fun j => if j = 1 then 5 else if j = 2 then 4294967294 else 0, 0, true, false, true, false, 1⟩
def ki1 : Ins := ⟨1, false, false, 2, 1, 0, 9, 7, 0, 0, 0⟩
def kc2 : Cpu := ⟨fun j => 0, 0, false, false, false, false, 9⟩
def kd2 : Cpu := ⟨fun j => if j = 15 then 40 else 0, 0, false, false, false, false, 7⟩
def ki2 : Ins := ⟨4, false, true, 0, 0, 0, 0, 0, -3, 7, 0⟩

theorem ki1_may : ki1.May := by constructor <;> simp [ki1]
theorem ki2_may : ki2.May := by constructor <;> simp [ki2]

theorem k1_step : kc1.step (wordR ki1) = (kd1, Ev.none) := by
  obtain ⟨_, h1, h2⟩ := word_of ki1_may
  unfold Cpu.step
  rw [h1, if_pos h2]
  unfold Cpu.exec
  rw [if_pos (by decide)]
  have e : kc1.next.op ki1 (kc1.next.r ki1.b.toNat) (kc1.next.num ki1) = some kd1 := by
    have h3 : kc1.next.num ki1 = 7 := by simp [Cpu.num, ki1, Ins.value]
    rw [h3]
    simp [Cpu.op, ki1, kc1, Cpu.next, kd1, Cpu.set, bn, W.wd, W.sg, W.out]
    funext j
    by_cases h1 : j = 1
    · subst h1; simp
    · by_cases h2 : j = 2
      · subst h2; simp
      · simp [h1, h2]
  rw [e]; rfl
theorem k2_step : kc2.step (wordR ki2) = (kd2, Ev.none) := by
  obtain ⟨_, h1, h2⟩ := word_of ki2_may
  unfold Cpu.step
  rw [h1, if_pos h2]
  unfold Cpu.exec
  rw [if_neg (by decide), if_neg (by decide), if_neg (by decide), if_neg (by decide), if_neg (by decide), if_neg (by decide)]
  simp [ki2, kc2, Cpu.next, kd2, Cpu.jump]

theorem kc1_ok : kc1.Ok := ⟨fun j => by unfold kc1; simp only []; split <;> omega, by decide, by decide⟩
theorem kc2_ok : kc2.Ok := ⟨fun j => by unfold kc2; simp only []; omega, by decide, by decide⟩
theorem ki1_ok : ki1.Ok := by constructor <;> decide
theorem ki2_ok : ki2.Ok := by constructor <;> decide

end Go.Proofs.Ytkeaogphaifnmaa
