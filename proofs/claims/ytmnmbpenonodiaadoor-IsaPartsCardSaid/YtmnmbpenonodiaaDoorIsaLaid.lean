/- What the rows' listed variables give a walk; contracts of strconv.Itoa, isa.reg, word.Dec, strings.Join over them. -/
import Derived.Test.YtmnmbpenonodiaaDoorShelf
import Derived.Test.YtmnmbpenonodiaaDoorWordArith
import Derived.Stop.LaidErr
import Derived.Lib.LaidTab
import Derived.WalkSmall
import Derived.Lib.ItoaNum
import Derived.Lib.Hide
namespace Go.Proofs.YtmnmbpenonodiaaDoor
set_option linter.unusedVariables false
set_option linter.unusedSimpArgs false
open Go.RowKit Go.Sort Go.Lib

theorem gP : Tryd.prog.globalNamed "internal/strconv.uint64pow10" = some 0 := by kernel_rfl
theorem gPT : (Tryd.prog.globals[0]?).map (·.type) = some 91 := by kernel_rfl

/-- the library's table stands. -/
def Laid (w : World) : Prop := TabIs Tryd.prog w "internal/strconv.uint64pow10" .u64 pow10Tab

theorem var_lt {w : World} {n : String} {g : Nat} {cs : Array Value} (hg : Tryd.prog.globalNamed n = some g) (h : w.var? Tryd.prog n = some cs) : g < w.heap.size := by
  unfold World.var? at h
  simp only [hg, Option.bind_some] at h
  rcases Nat.lt_or_ge g w.heap.size with h' | h'
  · exact h'
  · rw [Array.getElem?_eq_none h'] at h; cases h
theorem var_bel {w w' : World} {n : String} {g : Nat} {cs : Array Value} (hg : Tryd.prog.globalNamed n = some g) (h : w.var? Tryd.prog n = some cs) (hb : Below w.heap.size w w') : w'.var? Tryd.prog n = some cs :=
  var?_below hb hg (var_lt hg h) h
theorem Laid.bel {w w' : World} (h : Laid w) (hb : Below w.heap.size w w') : Laid w' := var_bel gP h hb
theorem Laid.ofB {B : Nat} {w w' : World} (h : Laid w) (hb : Below B w w') (hB : 0 < B) : Laid w' := var?_below hb gP hB h
theorem Laid.lt {w : World} (h : Laid w) : 0 < w.heap.size := var_lt gP h
theorem below_grown (w : World) (k : Nat) (os : Array Obj) : Below w.heap.size w (grow (w.drewN k) os) :=
  ⟨rfl, rfl, rfl, by simp [grow, World.drewN], fun i hi => by
    show ((w.drewN k).heap ++ os)[i]? = w.heap[i]?
    rw [Array.getElem?_append_left (show i < (w.drewN k).heap.size from hi)]; rfl⟩

/-- a number's text. -/
def num (n : Int) : ByteArray := ⟨(itoa n).toArray⟩
theorem itoa_walk (n : Int) (w : World) (hn : -9223372036854775808 ≤ n ∧ n ≤ 9223372036854775807) (hL : Laid w) : Calls Tryd.prog 35 #[.int .i64 n] w fun e w' => e = .returned (.string (num n)) ∧ Below w.heap.size w w' :=
  (Tryd.strconv_Itoa n hn.1 hn.2 w hL).mono fun e w' ⟨he, k, os, hw⟩ => ⟨he, by subst hw; exact below_grown _ _ _⟩

theorem reg_walk (n : Int) (w : World) (hn : 0 ≤ n ∧ n < 16) (hL : Laid w) : Calls Tryd.prog 36 #[.int .i64 n] w fun e w' => e = .returned (.string (⟨#[82]⟩ ++ num n)) ∧ Below w.heap.size w w' := by
  have HL := Lib.hid hL
  have HI := Lib.hid (fun w hL => itoa_walk n w (by omega) hL)
  have hz : (num n).size ≤ 100 := by
    have : n = 0 ∨ n = 1 ∨ n = 2 ∨ n = 3 ∨ n = 4 ∨ n = 5 ∨ n = 6 ∨ n = 7 ∨ n = 8 ∨ n = 9 ∨ n = 10 ∨ n = 11 ∨ n = 12 ∨ n = 13 ∨ n = 14 ∨ n = 15 := by omega
    rcases this with rfl | rfl | rfl | rfl | rfl | rfl | rfl | rfl | rfl | rfl | rfl | rfl | rfl | rfl | rfl | rfl <;> exact of_decide_eq_true (by kernel_rfl)
  clear hL hn
  go_enter Tryd.func36, Tryd.ntmps36
  go_wp2_with fail
  refine (HI.out _ HL.out).mono ?_
  rintro e w1 ⟨rfl, hb1⟩
  have HB1 := Lib.hid hb1
  clear hb1
  have hs : ¬ (9223372036854775807 < (⟨#[82]⟩ : ByteArray).size + (num n).size) := by
    have : (⟨#[82]⟩ : ByteArray).size = 1 := rfl
    omega
  go_wp2_with fail
  go_ret
  exact ⟨rfl, HB1.out⟩

theorem dec_walk (a : Int) (w : World) (ha : 0 ≤ a ∧ a < 4294967296) (hL : Laid w) : Calls Tryd.prog 37 #[.int .u32 a] w fun e w' => e = .returned (.string (num (W.sg a))) ∧ Below w.heap.size w w' := by
  have hs := W.sg_bd ha.1 ha.2
  have e1 := wrap32_sg ha.1 ha.2
  have HL := Lib.hid hL
  clear hL
  go_enter Tryd.func37, Tryd.ntmps37
  go_wp2_with (go_at_call 35; refine (itoa_walk (W.sg a) _ (by omega) HL.out).mono ?_; rintro e w' ⟨rfl, hb1⟩)
  go_ret
  exact ⟨rfl, hb1⟩

end Go.Proofs.YtmnmbpenonodiaaDoor
