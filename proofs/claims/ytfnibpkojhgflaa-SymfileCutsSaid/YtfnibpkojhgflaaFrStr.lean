/- A literal's slice as a row that is appended to; 'append(bytes, string...)'. Over whatever program. -/
import Derived.Test.YtfnibpkojhgflaaFrEq
import Derived.Lib.AppendStr
namespace Go.Proofs.Ytfnibpkojhgflaa
set_option linter.unusedVariables false
set_option linter.unusedSimpArgs false
open Go.RowKit
variable {w0 : Base} {w w' : World} {L : List Res}
/-- a literal of cells, one an element. -/
theorem Mem.boxRow (M : Mem w0 w L) (i : Nat) {g : Nat} {cs : Array Value} {e : TypeId} (h : L[i]? = some (bx g cs e)) {n : Nat} (hn : Nat.beq cs.size n = true) (hm : Nat.ble n 1000000 = true) {xs : List Value} (hx : cs.toList = xs) : Mem w0 w (L.set i (rw' (some ⟨g, 0, none⟩) n n e 1 xs)) := by
  have hn := Nat.eq_of_beq_eq_true hn
  have hm := Nat.le_of_ble_eq_true hm
  subst hn hx
  refine M.upd i h (Ke.refl _ _) ?_ (fun b hb => ?_)
  · exact ⟨by simp, .inr ⟨g, cs.size, cs, rfl, Nat.zero_le _, M.at i h, Nat.le_refl _, by unfold maxLen; omega, by simp, by rw [Nat.mul_one]; exact List.take_of_length_le (by simp)⟩⟩
  · have hb : some g = some b := hb
    obtain rfl := Option.some.inj hb
    exact ⟨.inl rfl, M.lt i h rfl⟩
/-- 'append(bytes, string...)'. -/
theorem Mem.appendStr {P : Program} (M : Mem w0 w L) (i : Nat) {g n c : Nat} {e t u ty : TypeId} {xs : List Value} (h : L[i]? = some (rw' (some ⟨g, 0, none⟩) n c e 1 xs)) (ht : P.underlying t = some (.slice e)) (hu : P.underlying u = some .string)
    (hi : (P.info? e).map (fun i => (i.size, i.zero, i.bytes)) = some (1, some (.int .u8 0), 1)) (s : ByteArray) (hlen : n + s.size ≤ 1000000) {k' : Nat} (hk : n + s.size = k') :
    ∃ a' c' w', (∀ k, (builtin .append [t, u].toArray ty k [Value.slice (some ⟨g, 0, none⟩) n c, Value.string s].toArray).run P w = .ok (.value (.slice a' k' c')) w') ∧ Mem w0 w' (L.set i (rw' a' k' c' e 1 (xs ++ Lib.strCells s))) ∧ Ke (fun b => (Value.slice (some ⟨g, 0, none⟩) n c).ownBlock = some b) w w' := by
  subst hk
  obtain ⟨it, hit⟩ : ∃ it, P.info? e = some it := by
    cases hq : P.info? e with
    | none => rw [hq] at hi; cases hi
    | some it => exact ⟨it, rfl⟩
  rw [hit] at hi
  simp only [Option.map_some, Option.some.injEq, Prod.mk.injEq] at hi
  obtain ⟨h1, h2, h3⟩ := hi
  have hown : w.ownsRow 0 e 1 (.slice (some ⟨g, 0, none⟩) n c) n xs := M.get i h
  obtain ⟨v', w', r1, r2, r3, _⟩ := Lib.run_append_own_string (P := P) (w := w) 0 t u ty e it ht hu hit h2 h1 h3 _ n xs hown s (by unfold maxLen; omega) (by omega) (Nat.zero_le _)
  have hv : ∃ a' c', v' = .slice a' (n + s.size) c' ∧ (v'.ownBlock = some g ∨ v'.ownBlock = some w.heap.size) := by
    rcases hown.2 with ⟨hh, _⟩ | ⟨g', cap, cur, hh, q0, hg, hnc, hcm, hcs, htake⟩
    · cases hh
    · simp only [Value.slice.injEq, Option.some.injEq, Addr.mk.injEq, and_true, true_and] at hh
      obtain ⟨rfl, rfl⟩ := hh
      by_cases hroom : n + s.size ≤ c
      · have hr := Lib.run_append_room_string (P := P) (w := w) t u ty e it ht hu hit h1 g n c cur hg s hroom (by have : cur.size = c * 1 := hcs; omega)
        rw [hr] at r1
        simp only [Result.ok.injEq] at r1
        obtain ⟨rfl, _⟩ := r1
        exact ⟨_, _, rfl, .inl rfl⟩
      · have holds : ∀ j u, xs[j]? = some u → w.cell? ((⟨g, 0, none⟩ : Addr).add j) = some u := hown.cells (g := g) rfl
        have hxl : xs.length = n := by simpa using hown.1
        have hr := Lib.run_append_grow_string (P := P) (w := w) t u ty e it (.int .u8 0) ht hu hit h2 ⟨g, 0, none⟩ n c xs (by rw [h1]; simpa using hxl) holds s (by omega) (by omega) (by rw [h3]; exact growslice_fits (by omega) (by omega))
        rw [hr] at r1
        simp only [Result.ok.injEq] at r1
        obtain ⟨rfl, _⟩ := r1
        exact ⟨_, _, rfl, .inr rfl⟩
  obtain ⟨a', c', rfl, hb'⟩ := hv
  refine ⟨a', c', w', fun k => ?_, ?_, Ke.ofGrown r3⟩
  · show (do pure (Next.value (← Builtin.append_ #[t, u] ty #[.slice (some ⟨g, 0, none⟩) n c, .string s])) : Sem Next).run P w = _
    rw [Sem.run_bind, r1]; rfl
  · refine M.upd i h (Ke.ofGrown r3) r2 (fun b hb => ⟨?_, (r2.lt b hb).2⟩)
    have hb : (Value.slice a' (n + s.size) c').ownBlock = some b := hb
    rcases hb' with q | q
    · left; rw [q] at hb; exact hb
    · right; rw [q] at hb; obtain rfl := Option.some.inj hb; exact Nat.le_refl _
section
variable {P : Program} {B : Code} {n : Nat} {Q : Exit → Act → World → Prop} {p : List Nat} {i : Nat} {is : List Nat} {l : Slots} {w : World}
theorem bnAt_rem {d : Option Nat} {t : TypeId} {k : IntKind} {a b : Int} (h : bnAt B n p l i = some (d, .rem, t, .int k a, .int k b)) (hb : b ≠ 0) :
    ∃ o, opAt B n p l i = some o ∧ o.dst = d ∧ ∀ act, Fr n l act → (execOp act.eval o).run P w = .ok (.value (.int k (a.tmod b))) w := by
  unfold bnAt at h
  cases ho : opAt B n p l i with
  | none => rw [ho] at h; cases h
  | some o =>
    rw [ho] at h
    simp only at h
    cases hop : o.op with
    | binOp op t' x y u =>
      rw [hop] at h
      simp only at h
      cases hk : (knows l x && knows l y) with
      | false => rw [hk] at h; cases h
      | true =>
        rw [hk] at h
        simp only [cond_true, Option.some.injEq, Prod.mk.injEq] at h
        rw [Bool.and_eq_true] at hk
        obtain ⟨hd, rfl, rfl, hx, hy⟩ := h
        refine ⟨o, rfl, hd, fun act ha => ?_⟩
        unfold execOp
        rw [hop]
        simp only [ha.eval hk.1, ha.eval hk.2, hx, hy]
        simp [eqGuard, Go.binOp, Op.intDiv, hb, Sem.run_bind]
    | _ => rw [hop] at h; cases h
theorem SL.rem {d : Nat} {t : TypeId} {k : IntKind} {a b r : Int} (e : a.tmod b = r) (h : bnAt B n p l i = some (some d, .rem, t, .int k a, .int k b)) (hb : b ≠ 0) (kk : SL P B n Q p is ((d, .int k r) :: l) w) : SL P B n Q p (i :: is) l w := by
  subst e; exact SL.byRun (bnAt_rem h hb) kk
end
end Go.Proofs.Ytfnibpkojhgflaa
