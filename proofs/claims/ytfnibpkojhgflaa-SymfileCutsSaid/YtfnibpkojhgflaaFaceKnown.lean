/- Contracts: the reference's Key; the chapter's rows ('known'). -/
import Derived.Test.YtfnibpkojhgflaaFaceOut
import Derived.Test.YtfnibpkojhgflaaFaceRKey
import Derived.Test.YtfnibpkojhgflaaLibA
namespace Go.Proofs.Ytfnibpkojhgflaa
set_option linter.unusedVariables false
set_option linter.unusedSimpArgs false
open Go.RowKit

theorem rd_at8 {w : World} {h : Nat} (l : List Int) (hA : At w h (l.map (Value.int .u8)).toArray 5) (hb : ∀ x ∈ l, isByte x) (hl : l.length ≤ 1000) : RdI .u8 w (some ⟨h, 0, none⟩) l.length l :=
  ⟨⟨⟨h, 0, fun _ => ⟨rfl, hA.lt⟩, fun j u hj => by rw [Nat.zero_add, hA.cell]; simpa using hj⟩, fun h => (by cases h), Nat.le_refl _, by unfold maxLen; omega⟩, fun x hx => bd_u8' (hb x hx)⟩

def knF : FD := ⟨⟨#[77]⟩, [], [], []⟩
def knFB : List Int := [83, 49, 1, 77, 185, 61, 52, 124, 0, 0, 0, 0, 0, 0]
theorem knF_may : mayFace knF = true := by decide +kernel
theorem knF_is : outF knF = knFB := by decide +kernel
theorem knF_key : keyF knF = 2083798457 := by decide +kernel
theorem knF_err : errF knF = 0 := by decide +kernel
theorem kn_zero : Key.of [0, 0, 0, 0, 0, 0] = 2083798457 := by decide +kernel
def knFc : Fc := ⟨⟨#[77]⟩, Sl.none, Sl.none, Sl.none⟩
theorem knFc_rd (w : World) : knFc.Rd w := ⟨show (1 : Nat) ≤ maxLen by unfold maxLen; omega, Rows.nil _ _, Rows.nil _ _, Rows.nil _ _⟩

set_option maxRecDepth 100000 in
set_option maxHeartbeats 2000000 in
theorem known_walk (w : World) : Calls Try.prog 11 #[] w fun e w' => e = .returned (.bool true) ∧ Below w.heap.size w w' := by
  have HC : Hid (Calls Try.prog 22 #[.agg #[.string ⟨#[77]⟩, .slice none 0 0, .slice none 0 0, .slice none 0 0]] w fun e w' => ∃ a c, e = .returned (.tuple #[.slice a 14 c, .int .u32 2083798457, .int .i64 0]) ∧ RdI .u8 w' a c knFB ∧ Below w.heap.size w w') := Lib.hid ((bytes_walk knFc w (knFc_rd w)).mono (by
    rintro e w' ⟨a, c, rfl, hr, hb⟩
    rw [show knFc.d = knF from rfl] at *
    rw [knF_is] at *
    rw [knF_key, knF_err]
    exact ⟨a, c, rfl, hr, hb⟩))
  have HK : Hid (∀ (W : World) (h : Nat), At W h #[.int .u8 0, .int .u8 0, .int .u8 0, .int .u8 0, .int .u8 0, .int .u8 0] 5 → Calls Try.prog 21 #[.slice (some ⟨h, 0, none⟩) 6 6] W fun e w' => e = .returned (.int .u32 2083798457) ∧ W = w') := Lib.hid (fun W h hA => by
    have h := fkey_walk _ [0, 0, 0, 0, 0, 0] 6 _ (rd_at8 [0, 0, 0, 0, 0, 0] hA (by intro x hx; simp only [List.mem_cons, List.not_mem_nil, or_false, or_self] at hx; subst hx; exact ⟨by decide, by decide⟩) (show 6 ≤ 1000 by decide))
    rw [kn_zero] at h
    exact h)
  have f3 : True := trivial
  have f1 : True := trivial
  have f2 : True := trivial
  go_enter Try.func11, Try.ntmps11
  go_wp2_with (first | (have _f := f1; refine HC.out.mono ?_; rintro e w3 ⟨a, c, rfl, hr, hb⟩; have HRB := Lib.hid hr; have HB := Lib.hid hb; have hcap := hr.row.le; obtain ⟨b, o, h1, h2⟩ := hr.row.at'; obtain ⟨rfl, hbl⟩ := h1 (by decide); have c4 : w3.cell? ⟨b, o + 4, none⟩ = some (.int .u8 185) := h2 4 _ rfl; have c8 : w3.cell? ⟨b, o + 8, none⟩ = some (.int .u8 0) := h2 8 _ rfl; have hcc : (14 : Nat) ≤ c := hcap; have k1 : (4 : Int) ≤ c := (by omega); have k2 : ¬ c = 0 := (by omega); have k3 : 0 < c := (by omega); have hcv : (convert 46 9 (.slice (some ⟨b, o, none⟩) 4 c)).run Try.prog w3 = .ok (.string ⟨#[83, 49, 1, 77]⟩) w3 := run_str_of (P := Try.prog) (dst := 9) (hr.take 4 (by decide)).1 Try.underlying46 Try.underlying5 Try.underlying9; have HBL := Lib.hid hbl; clear hr hb h1 h2 hcap hcc _f f1) | (have _f := f2; refine guard_off (by kernel_rfl) ?_; refine make_sep rfl (.const (.int .i64 6)) (.const (.int .i64 6)) et_u8 rfl (Sep.nil w3) 6 rfl rfl rfl (by decide) (by unfold maxLen; omega) ?_; intro w4 S4 b4 _; have hA4 := S4.at 0 rfl; rw [show madeCells (Value.int .u8 0).cells (6 * 1) = #[.int .u8 0, .int .u8 0, .int .u8 0, .int .u8 0, .int .u8 0, .int .u8 0] from by kernel_rfl] at hA4; have HA4 := Lib.hid hA4; clear hA4; have d4 := (b4.cell (p := ⟨b, o + 4, none⟩) HBL.out).trans c4; have d8 := (b4.cell (p := ⟨b, o + 8, none⟩) HBL.out).trans c8; have HB4 := Lib.hid (bel_then HB.out b4); clear S4 b4 _f f2) | (have _f := f3; refine (HK.out _ _ HA4.out).mono ?_; rintro e w5 ⟨rfl, rfl⟩; clear _f f3))
  go_ret
  exact ⟨rfl, HB4.out⟩
end Go.Proofs.Ytfnibpkojhgflaa
