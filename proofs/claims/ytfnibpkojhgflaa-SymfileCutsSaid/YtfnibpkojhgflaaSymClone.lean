/- Contract: bytes.Clone (as in chapter 07). -/
import Derived.Test.YtfnibpkojhgflaaLibC
import Derived.Test.YtfnibpkojhgflaaFaceCodec
import Derived.Laws.OwnMore
import Derived.Lib.SliceRun
namespace Go.Proofs.Ytfnibpkojhgflaa
set_option linter.unusedVariables false
set_option linter.unusedSimpArgs false
open Go.RowKit

theorem et_byte : ET Try.prog 46 5 (.int .u8 0) 1 1 := ET.of Try.underlying46 (by kernel_rfl) (by decide) (by decide)

set_option maxHeartbeats 2000000 in
theorem clone_walk (a : Option Addr) (c : Nat) (l : List Int) (w : World) (h : RdI .u8 w a c l) (hl : l.length ≤ 100000000) (ha : a = none ∨ ∃ b o, a = some ⟨b, o, none⟩) :
    Calls Try.prog 31 #[.slice a l.length c] w fun e w' => ∃ a' c', e = .returned (.slice a' l.length c') ∧ RdI .u8 w' a' c' l ∧ (a' = none ∨ ∃ b o, a' = some ⟨b, o, none⟩) ∧ Below w.heap.size w w' := by
  have q0 : ∀ (w : World) (n c : Nat), (binOp .eql 46 (.slice none n c) (.slice none 0 0)).run Try.prog w = .ok (.bool true) w := fun w n c => Lib.run_eql_slice_nil (P := Try.prog) w _ _ none n c 0 0 Try.underlying46
  have q1 : ∀ (w : World) (x : Addr) (n c : Nat), (binOp .eql 46 (.slice (some x) n c) (.slice none 0 0)).run Try.prog w = .ok (.bool false) w := fun w x n c => Lib.run_eql_slice_nil (P := Try.prog) w _ _ (some x) n c 0 0 Try.underlying46
  rcases ha with rfl | ⟨b, o, rfl⟩
  · have HR := Lib.hid h
    go_enter Try.func31, Try.ntmps31
    go_wp2
    go_ret
    obtain ⟨h1, rfl⟩ := HR.out.row.nil rfl
    obtain rfl : l = [] := List.length_eq_zero_iff.1 h1
    exact ⟨none, 0, rfl, HR.out, .inl rfl, Below.refl _ _⟩
  · have HR := Lib.hid h
    have HL := Lib.hid hl
    clear h hl
    have f1 : True := trivial
    have HO : Hid ((w.alloc (.cells #[] 5)).ownsRow w.heap.size 5 1 (.slice (some ⟨w.heap.size, 0, none⟩) 0 0) 0 []) := Lib.hid ⟨rfl, .inr ⟨w.heap.size, 0, #[], rfl, Nat.le_refl _, At.new w #[] 5, Nat.le_refl _, Nat.zero_le _, rfl, rfl⟩⟩
    have HX : Hid (RdI .u8 (w.alloc (.cells #[] 5)) (some ⟨b, o, none⟩) c l) := Lib.hid (HR.out.below (bel1 w _) (Nat.le_refl _))
    go_enter Try.func31, Try.ntmps31
    go_wp2_with (have _f := f1; refine append_at rfl (.tmp 5) (.tmp 6) et_byte rfl w.heap.size rfl HO.out rfl HX.out.row (by rw [List.length_map, Nat.mul_one]) (fun u hu => by obtain ⟨x, _, rfl⟩ := List.mem_map.1 hu; rfl) (by have := HL.out; omega) (by have := HL.out; omega) (by simp) ?_; intro v' w' ho hg hv; have HO2 := Lib.hid ho; have HG := Lib.hid hg; clear ho hg hv _f f1)
    go_ret
    have ho := HO2.out
    rw [Nat.zero_add, List.nil_append] at ho
    obtain ⟨a', c', rfl, hr⟩ := RdI.own ho HR.out.bd
    refine ⟨a', c', rfl, hr, ?_, (Below.refl _ w).alloc (Nat.le_refl _) _ |>.trans (bel_ke (Ke.ofGrown HG.out) (fun i hi => Nat.le_of_eq (Option.some.inj hi)) (by simp))⟩
    rcases ho.2 with ⟨hh, _⟩ | ⟨g, cap, cur, hh, _⟩
    · simp only [Value.slice.injEq] at hh; exact .inl hh.1
    · simp only [Value.slice.injEq] at hh; exact .inr ⟨g, 0, hh.1⟩

end Go.Proofs.Ytfnibpkojhgflaa
