/- The law WordBytes, walked. -/
import Derived.Test.YtomenhpdkghlgaaDoorWordOf
import Derived.Test.YtomenhpdkghlgaaDoorWordLaws
namespace Go.Proofs.YtomenhpdkghlgaaDoor
set_option linter.unusedVariables false
set_option linter.unusedSimpArgs false
open Go.RowKit Go.Sort Go.Lib

/-- bytes as a text, in every world of a segment. -/
theorem later_str {w : World} {a : Option Addr} {c : Nat} {l : List Int} (h : RdI .u8 w a c l) (x : Later (Below w.heap.size w)) : (convert 44 9 (.slice a l.length c)).run Tryd.prog x.w = .ok (.string (strOf l)) x.w :=
  run_str_of (h.below x.ok (Nat.le_refl _)) Tryd.underlying44 Tryd.underlying5 Tryd.underlying9

theorem own_cat {k : IntKind} {w : World} {base : Nat} {e : TypeId} {v : Value} {n : Nat} {l : List Int} (hown : w.ownsRow base e 1 v n (l.map (Value.int k))) (hb : ∀ x ∈ l, k.min ≤ x ∧ x ≤ k.max) :
    ∃ a c, v = .slice a l.length c ∧ RdI k w a c l := RdI.own hown hb

/-- what word.Of answers, whichever way. -/
def OfR (lb : List Int) (w : World) (e : Ending) (w' : World) : Prop := ∃ a k c n, e = .returned (.tuple #[.slice a k c, .int .i64 n]) ∧ Below w.heap.size w w' ∧
  ((lb.length % 4 = 0 ∧ k = (wordsL lb).length ∧ n = 0 ∧ RdI .u32 w' a c (wordsL lb)) ∨ (lb.length % 4 ≠ 0 ∧ k = 0 ∧ n = 4))
theorem of_any (b : Option Addr) (lb : List Int) (cb : Nat) (w : World) (h : RdI .u8 w b cb lb) (hn : lb.length ≤ 9000) : Calls Tryd.prog 33 #[.slice b lb.length cb] w (OfR lb w) := by
  by_cases h4 : lb.length % 4 = 0
  · exact (of_bytes b lb cb w h (by omega) h4).mono fun e w' ⟨a, c, he, hr, hb⟩ => ⟨a, _, c, 0, he, hb, .inl ⟨h4, rfl, rfl, hr⟩⟩
  · exact (of_bad b lb cb w h h4).mono fun e w' ⟨he, hw⟩ => ⟨none, 0, 0, 4, he, hw ▸ Below.refl _ _, .inr ⟨h4, rfl, rfl⟩⟩

set_option maxRecDepth 100000 in
set_option maxHeartbeats 8000000 in
theorem bytes_law (a : Option Addr) (ca : Nat) (l : List Int) (b : Option Addr) (cb : Nat) (lb : List Int) (w : World) (hL : Laid w) (ha : RdI .u32 w a ca l) (hb : RdI .u8 w b cb lb) :
    Calls Tryd.prog 9 #[.slice a l.length ca, .slice b lb.length cb] w fun e w' => e = .returned (.bool true) ∧ Below w.heap.size w w' := by
  have HL := Lib.hid hL
  have hla := ha.len
  have hlb := hb.len
  have HA := Lib.hid ha
  have HB := Lib.hid hb
  obtain ⟨n, hn⟩ : ∃ n, n = l.length := ⟨_, rfl⟩
  obtain ⟨m, hm⟩ : ∃ m, m = lb.length := ⟨_, rfl⟩
  rw [← hn] at hla
  rw [← hm] at hlb
  rw [← hn, ← hm]
  have HN := Lib.hid hn
  have HM := Lib.hid hm
  have HRB : Hid (∀ w, RdI .u32 w a ca l → l.length ≤ 3000 → Calls Tryd.prog 34 #[.slice a n ca] w (RetInts .u8 w (bytesL l))) := by
    rw [HN.out]; exact fun w h hs => rbytes_walk a l ca w h (by omega)
  have HOF : Hid (∀ w, RdI .u8 w b cb lb → lb.length ≤ 9000 → Calls Tryd.prog 33 #[.slice b m cb] w (OfR lb w)) := by
    rw [HM.out]; exact fun w h hs => of_any b lb cb w h hs
  clear hL ha hb hn hm
  by_cases h1 : 3000 < n
  · have d1 : decide (3000 < (n : Int)) = true := decide_eq_true (by omega)
    go_enter Tryd.func9, Tryd.ntmps9
    go_wp2_with fail
    refine (known_walk _ HL.out).mono ?_
    rintro e w' ⟨rfl, hb1⟩
    go_wp2_with fail
    go_ret
    exact ⟨rfl, hb1⟩
  · have d1 : decide (3000 < (n : Int)) = false := decide_eq_false (by omega)
    by_cases h2 : 9000 < m
    · have d2 : decide (9000 < (m : Int)) = true := decide_eq_true (by omega)
      go_enter Tryd.func9, Tryd.ntmps9
      go_wp2_with fail
      refine (known_walk _ HL.out).mono ?_
      rintro e w' ⟨rfl, hb1⟩
      go_wp2_with fail
      go_ret
      exact ⟨rfl, hb1⟩
    · have d2 : decide (9000 < (m : Int)) = false := decide_eq_false (by omega)
      replace HRB := Lib.hid (fun w h => HRB.out w h (by rw [← HN.out]; omega))
      go_enter Tryd.func9, Tryd.ntmps9
      go_wp2_with (at_builtin; refine append_rd rfl (.const (.slice none 0 0)) (.tmp 19) et_u32 rfl w.heap.size rfl (World.ownsRow_nil _ _ _ _) (by rw [HN.out]; rfl) HA.out.row (by simp) (ints_one _ _) (by have := HN.out; omega) (by have := HN.out; omega) (Nat.le_refl _) ?_; intro v1 w1 hown1 hg1; have hb1 : Below w.heap.size w w1 := (Below.refl _ _).grown hg1 (Nat.le_refl _) (fun g hg => (by cases hg)); simp only [Nat.zero_add, List.nil_append] at hown1; obtain ⟨a1, c1, rfl, hr1⟩ := own_cat hown1 HA.out.bd; have HR1 := Lib.hid hr1; have B1 := Lib.hid hb1; clear hr1 hown1 hb1 hg1)
      refine (bytes_walk a1 l c1 _ HR1.out (by rw [← HN.out]; omega)).mono ?_
      rintro e w2 ⟨a2, c2, rfl, hx2, hb2⟩
      have B2 := Lib.hid (bel_then B1.out hb2)
      have HX2 := Lib.hid hx2
      have HR2 := Lib.hid (HR1.out.below hb2 (Nat.le_refl _))
      clear hx2 hb2
      go_wp2_with fail
      refine (HOF.out _ (HB.out.below B2.out (Nat.le_refl _)) (by rw [← HM.out]; omega)).mono ?_
      rintro e w3 ⟨a3, k3, c3, e3, rfl, hb3, hy⟩
      have B3 := Lib.hid (bel_then B2.out hb3)
      have HX3 := Lib.hid (HX2.out.below hb3 (Nat.le_refl _))
      have HR3 := Lib.hid (HR2.out.below hb3 (Nat.le_refl _))
      have HY3 := Lib.hid hy
      clear hy hb3
      go_wp2_with fail
      ( refine wp_region_mix' [([0, 1, 2], 3)] [4, 5] (by kernel_rfl) (by kernel_rfl) (fun _ _ d _ _ h => by cases d <;> exact h) ?_ ; intro wd hbd ; have Bd := Lib.hid (bel_then B3.out hbd) ; have HXd := Lib.hid (HX3.out.below hbd (Nat.le_refl _)) ; have cv := later_str HXd.out ; refine mix_step ?_ ; simp only [pickOps, nth] ; (repeat (go_big_quiet_step (fail))) ; refine wpQuiet_nil ?_ ; clear cv ; go_wp2_with fail ; refine (HRB.out _ (HA.out.below Bd.out (Nat.le_refl _))).mono ?_ ; rintro e w4 ⟨a4, c4, rfl, hx4, hb4⟩ ; have B4 := Lib.hid (bel_then Bd.out hb4) ; have HX4 := Lib.hid hx4 ; have HR4 := Lib.hid ((HR3.out.below hbd (Nat.le_refl _)).below hb4 (Nat.le_refl _)) ; have B34 := Lib.hid (bel_then hbd hb4) ; have HB4 := Lib.hid hb4 ; clear hx4 hb4 hbd ; go_wp2_with fail ; refine ⟨HB4.out, mix_end ?_⟩ ; have cv := later_str HX4.out ; simp only [pickOps, nth] ; (repeat (go_big_quiet_step (fail))) ; refine wpQuiet_nil ?_ ; clear cv ; go_wp2_with fail)
      obtain ⟨b1, o1, hat1, hc1⟩ := HR4.out.cells
      obtain ⟨b0, o0, hat0, hc0⟩ := HA.out.cells
      have T1 := Lib.hid hat1
      have C1 := Lib.hid hc1
      have T0 := Lib.hid hat0
      have C0 := Lib.hid hc0
      clear hat1 hc1 hat0 hc0
      go_loopw [9] (fun i wr => ∃ k : Nat, k ≤ n ∧ i = .int .i64 k ∧ Below w4.heap.size w4 wr) (fun i _ => n - (RowKit.intOf i).toNat)
      case atStart => exact ⟨0, Nat.zero_le _, rfl, Below.refl _ _⟩
      case round =>
        obtain ⟨k, hk, rfl, hbr⟩ := hrel
        have HBR := Lib.hid hbr
        clear hbr
        by_cases hlt : k < n
        · obtain ⟨rfl, q1⟩ := T1.out (by rw [← HN.out]; omega)
          obtain ⟨rfl, q0⟩ := T0.out (by rw [← HN.out]; omega)
          have g1 := C1.out k (by rw [← HN.out]; exact hlt)
          have g0 := C0.out k (by rw [← HN.out]; exact hlt)
          obtain ⟨x, hx⟩ : ∃ x, x = l.getD k 0 := ⟨_, rfl⟩
          rw [← hx] at g1 g0
          have g1r := (HBR.out.cell (p := ⟨b1, o1 + k, none⟩) q1).trans g1
          have g0r := ((bel_then B4.out HBR.out).cell (p := ⟨b0, o0 + k, none⟩) q0).trans g0
          have Q1 := Lib.hid (Nat.lt_of_lt_of_le q1 HBR.out.size)
          have Q0 := Lib.hid (Nat.lt_of_lt_of_le q0 (bel_then B4.out HBR.out).size)
          have G1 := Lib.hid g1r
          have G0 := Lib.hid g0r
          have i1 : decide ((k : Int) < n) = true := decide_eq_true (by omega)
          have HLN := Lib.hid HN.out
          have hln : k < l.length := by rw [← HN.out]; exact hlt
          clear hx g1 g0 g1r g0r q1 q0
          go_wp2_with fail
          refine wp_region_mix' [] [0, 1, 2, 3, 4, 5, 6, 7, 8] (by kernel_rfl) (by kernel_rfl) (fun _ _ d _ _ h => by cases d <;> exact h) ?_
          intro we hbe
          have f1 := later_cell (p := ⟨b1, o1 + k, none⟩) (Nat.lt_of_lt_of_le Q1.out hbe.size) ((hbe.cell (p := ⟨b1, o1 + k, none⟩) Q1.out).trans G1.out)
          have f0 := later_cell (p := ⟨b0, o0 + k, none⟩) (Nat.lt_of_lt_of_le Q0.out hbe.size) ((hbe.cell (p := ⟨b0, o0 + k, none⟩) Q0.out).trans G0.out)
          refine mix_end ?_
          simp only [pickOps, nth]
          (repeat (go_big_quiet_step (fail)))
          refine wpQuiet_nil ?_
          have BE := Lib.hid (bel_then HBR.out hbe)
          clear f1 f0 hbe
          go_wp2_with fail
          go_roundw
          case rel => exact ⟨k + 1, by omega, by go_num, BE.out⟩
          case measure => simp [RowKit.intOf]; omega
        · obtain rfl : k = n := by omega
          have i1 : decide ((k : Int) < k) = false := decide_eq_false (by omega)
          have B5 := Lib.hid (bel_then B4.out HBR.out)
          by_cases h4 : lb.length % 4 = 0
          · have hm4 : ((m : Int) % 4) = 0 := by rw [HM.out]; omega
            rcases HY3.out with ⟨_, rfl, rfl, hy⟩ | ⟨h, _⟩
            rotate_left
            · exact absurd h4 h
            have HYR := Lib.hid (hy.below (bel_then B34.out HBR.out) (Nat.le_refl _))
            have HBW := Lib.hid (bytes_words lb h4 (fun x hx => bd_u8 (HB.out.bd x hx)))
            have hwl : (wordsL lb).length ≤ 9000 := by rw [wordsL_len, ← HM.out]; omega
            clear hy h4
            go_wp2_with fail
            refine wp_region_mix' [([0, 3, 4], 1), ([2, 5, 6, 7], 8), ([9, 10, 11], 12)] [13, 14] (by kernel_rfl) (by kernel_rfl) (fun _ _ d _ _ h => by cases d <;> exact h) ?_
            intro we hbe
            have BE := Lib.hid (bel_then B5.out hbe)
            have HYE := Lib.hid (HYR.out.below hbe (Nat.le_refl _))
            have cvb : ∀ x : Later (Below we.heap.size we), (convert 44 9 (.slice b m cb)).run Tryd.prog x.w = .ok (.string (strOf lb)) x.w := by
              rw [HM.out]; exact fun x => later_str (HB.out.below BE.out (Nat.le_refl _)) x
            refine mix_step ?_
            simp only [pickOps, nth]
            (repeat (go_big_quiet_step (fail)))
            refine wpQuiet_nil ?_
            clear cvb hbe
            go_wp2_with fail
            refine (rbytes_walk a3 (wordsL lb) c3 _ HYE.out (by omega)).mono ?_
            rw [HBW.out]
            rintro e w6 ⟨a6, c6, rfl, hx6, hb6⟩
            have B6 := Lib.hid (bel_then BE.out hb6)
            have HB6 := Lib.hid hb6
            have HX6 := Lib.hid hx6
            clear hx6 hb6
            go_wp2_with fail
            refine ⟨HB6.out, mix_step ?_⟩
            have cv := later_str HX6.out
            simp only [pickOps, nth]
            (repeat (go_big_quiet_step (fail)))
            refine wpQuiet_nil ?_
            clear cv
            go_wp2_with fail
            refine (num_walk 0 _).mono ?_
            rintro e w' ⟨rfl, rfl⟩
            go_wp2_with fail
            refine ⟨Below.refl _ _, mix_step ?_⟩
            simp only [pickOps, nth]
            (repeat (go_big_quiet_step (fail)))
            refine wpQuiet_nil ?_
            go_wp2_with fail
            refine (known_walk _ (HL.out.bel B6.out)).mono ?_
            rintro e w7 ⟨rfl, hb7⟩
            have B7 := Lib.hid (bel_then B6.out hb7)
            have HB7 := Lib.hid hb7
            clear hb7
            go_wp2_with fail
            refine ⟨HB7.out, mix_end ?_⟩
            simp only [pickOps, nth]
            (repeat (go_big_quiet_step (fail)))
            refine wpQuiet_nil ?_
            go_wp2_with fail
            go_ret
            exact ⟨rfl, B7.out⟩
          · have hm4 : ¬ ((m : Int) % 4) = 0 := by rw [HM.out]; omega
            rcases HY3.out with ⟨h, _⟩ | ⟨_, rfl, rfl⟩
            · exact absurd h h4
            go_wp2_with fail
            refine (num_walk 4 _).mono ?_
            rintro e w' ⟨rfl, rfl⟩
            go_wp2_with fail
            refine (known_walk _ (HL.out.bel B5.out)).mono ?_
            rintro e w7 ⟨rfl, hb7⟩
            go_wp2_with fail
            go_ret
            exact ⟨rfl, bel_then B5.out hb7⟩

end Go.Proofs.YtomenhpdkghlgaaDoor
