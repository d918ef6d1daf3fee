/- The names' numbers, as the map reads. -/
import Derived.Test.YtdgiijidgjagbaaScanAt
import Derived.Maps.Views
namespace Go.Proofs.Ytdgiijidgjagbaa
set_option linter.unusedVariables false
set_option linter.unusedSimpArgs false
open Go.RowKit

theorem skey (x : List UInt8) : WideAt.IsKeyLit (.string x) := by simp [WideAt.IsKeyLit]
theorem isMap_ids : ∀ (l : List (List UInt8)) (D : DataW Unit) (k : Nat), Maps.IsMap D → Maps.IsMap (idsF D k l)
  | [], D, k, h => h
  | x :: l, D, k, h => isMap_ids l _ _ (h.put _ _)
theorem has_ids (y : List UInt8) : ∀ (l : List (List UInt8)) (D : DataW Unit) (k : Nat), Maps.IsMap D → Maps.has (idsF D k l) (.string y) = (Maps.has D (.string y) || decide (y ∈ l))
  | [], D, k, h => by simp [idsF]
  | x :: l, D, k, h => by
    rw [idsF, has_ids y l _ _ (h.put _ _)]
    by_cases hx : y = x
    · subst hx; rw [Maps.has_put_same h (skey _)]; simp
    · rw [Maps.has_put_other (by simpa using hx)]
      simp [hx]
theorem ids_has (y : List UInt8) (l : List (List UInt8)) : Maps.has (idsD l) (.string y) = decide (y ∈ l) := by
  unfold idsD; rw [has_ids y l _ _ Maps.isMap_empty]; simp [Maps.has]
theorem at_ids (y : List UInt8) (z : DataW Unit) : ∀ (l : List (List UInt8)) (D : DataW Unit) (k : Nat), Maps.IsMap D → l.Nodup → y ∈ l → (idsF D k l).atKey (.string y) z = lit64 (k + l.idxOf y)
  | [], D, k, h, _, hm => by simp at hm
  | x :: l, D, k, h, hn, hm => by
    rw [List.nodup_cons] at hn
    rw [idsF]
    by_cases hx : y = x
    · subst hx
      have : ∀ (l : List (List UInt8)) (D : DataW Unit) (j : Nat), y ∉ l → (idsF D j l).atKey (.string y) z = D.atKey (.string y) z := by
        intro l
        induction l with
        | nil => intro D j _; rfl
        | cons q l ih =>
          intro D j hq
          simp only [List.mem_cons, not_or] at hq
          rw [idsF, ih _ _ hq.2, Maps.atKey_put_other (by simpa using hq.1)]
      rw [this l _ _ hn.1, Maps.atKey_put_same h (skey _)]
      simp
    · have hm' : y ∈ l := by simpa [hx] using hm
      rw [at_ids y z l _ _ (h.put _ _) hn.2 hm', List.idxOf_cons]
      have : (x == y) = false := by simpa using (fun e => hx e.symm)
      rw [this]; simp only [cond_false]; congr 1; omega
theorem ids_at {y : List UInt8} {l : List (List UInt8)} (z : DataW Unit) (hn : l.Nodup) (hm : y ∈ l) : (idsD l).atKey (.string y) z = lit64 (l.idxOf y) := by
  unfold idsD; rw [at_ids y z l _ _ Maps.isMap_empty hn hm, Nat.zero_add]

end Go.Proofs.Ytdgiijidgjagbaa
