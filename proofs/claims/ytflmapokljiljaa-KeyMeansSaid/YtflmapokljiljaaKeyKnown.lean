/- Contract: the chapter's known rows. -/
import Derived.Test.YtflmapokljiljaaKeyMuch
import Derived.Deep.AppendLies
namespace Go.Proofs.Ytflmapokljiljaa
open Go.RowKit

theorem RdII.nilSlice (k : IntKind) (w : World) : RdII k w none 0 [] := ⟨⟨0, 0, fun h => by simp at h, fun i h => by simp at h⟩, fun _ => rfl, Nat.le_refl _, Nat.zero_le _⟩

theorem of_nil (w : World) : Calls Try.prog 10 #[.slice none 0 0] w fun e w' => e = .returned (.int .u32 2166136261) ∧ Below w.heap.size w w' := by
  refine (of_any none [] 0 w (RdII.nilSlice _ _)).mono ?_
  rintro e w' ⟨rfl, hb⟩
  exact ⟨rfl, hb⟩

/-- new bytes in a block of their own. -/
theorem RdI.made {k : IntKind} (w : World) (l : List Int) (e : TypeId) (hl : l.length ≤ 140737488355328) (hb : ∀ x ∈ l, k.min ≤ x ∧ x ≤ k.max) :
    RdI k (w.alloc (.cells (l.map (Value.int k)).toArray e)) (some ⟨w.heap.size, 0, none⟩) l.length l := by
  refine ⟨⟨⟨w.heap.size, 0, fun _ => ⟨rfl, by simp⟩, fun j u hj => ?_⟩, (fun h => by cases h), Nat.le_refl _, by unfold maxLen; omega⟩, hb⟩
  have h1 := heap_alloc_new w (.cells (l.map (Value.int k)).toArray e)
  have h2 := World.news_of_block h1 j u (by simpa using hj)
  by_cases h0 : j = 0
  · subst h0; simpa [Addr.add] using h2
  · simpa [Addr.add, h0] using h2

theorem of_zero (w : World) : Calls Try.prog 10 #[.slice (some ⟨w.heap.size + 1, 0, none⟩) 1 1] ((w.alloc (.cells #[.int .u8 0] 5)).alloc (.cells #[.slice (some ⟨w.heap.size, 0, none⟩) 1 1] 25)) fun e w' => e = .returned (.int .u32 84696352) ∧ Below w.heap.size w w' := by
  have h := of_any1 (some ⟨w.heap.size, 0, none⟩) [0] 1 (w.alloc (.cells #[.int .u8 0] 5)) (RdI.made w [0] 5 (by simp) (by intro x hx; simp at hx; subst hx; exact bd_u8' (by omega)))
  rw [World.size_alloc] at h
  exact h.mono fun e w' ⟨he, hb⟩ => ⟨by rw [he]; rfl, ((Below.refl _ w).alloc (Nat.le_refl _) _).trans (hb.mono (by omega))⟩

set_option maxHeartbeats 400000 in
theorem known_any (w : World) :
    Calls Try.prog 8 #[] w fun e w' => e = .returned (.bool true) ∧ Below w.heap.size w w' := by
  go_enter Try.func8, Try.ntmps8
  go_wp2_with (go_at_call 15; refine (start_any _).mono ?_; rintro e w' ⟨rfl, rfl⟩)
  refine (of_nil _).mono ?_
  rintro e w1 ⟨rfl, hb1⟩
  go_wp2_with fail
  refine (of_zero _).mono ?_
  rintro e w2 ⟨rfl, hb2⟩
  go_wp2
  go_ret
  exact ⟨rfl, hb1.trans (hb2.mono hb1.size)⟩

end Go.Proofs.Ytflmapokljiljaa
