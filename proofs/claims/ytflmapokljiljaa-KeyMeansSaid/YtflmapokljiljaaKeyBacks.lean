/- The walk of KeyBacks. -/
import Derived.Test.YtflmapokljiljaaKeyKnown
namespace Go.Proofs.Ytflmapokljiljaa
open Go.RowKit

theorem backs_e1 {k l c : Int} (hk : 0 ≤ k ∧ k < 4294967296) (hl : 0 ≤ l ∧ l < 4294967296) : (Key.step k c == Key.step l c) = (k == l) := by
  rw [Bool.eq_iff_iff, beq_iff_eq, beq_iff_eq]
  exact ⟨fun h => Key.step_inj hk.1 hk.2 hl.1 hl.2 h, fun h => by rw [h]⟩

theorem backs_e2 (a b e : List Int) : (Key.of (a ++ e) == Key.of (b ++ e)) = (Key.of a == Key.of b) := by
  rw [Bool.eq_iff_iff, beq_iff_eq, beq_iff_eq]
  unfold Key.of
  rw [Key.on_append, Key.on_append]
  have h1 := Key.of_bd a
  have h2 := Key.of_bd b
  unfold Key.of at h1 h2
  exact ⟨fun h => Key.on_inj e h1.1 h1.2 h2.1 h2.2 h, fun h => by rw [h]⟩

theorem bd_append {k : IntKind} {w : World} {a b : Option Addr} {ca cb : Nat} {la lb : List Int} (h1 : RdI k w a ca la) (h2 : RdI k w b cb lb) : ∀ x ∈ la ++ lb, k.min ≤ x ∧ x ≤ k.max := by
  intro x hx
  rcases List.mem_append.1 hx with h | h
  · exact h1.bd x h
  · exact h2.bd x h

theorem own_cat {k : IntKind} {w : World} {base : Nat} {e : TypeId} {v : Value} {n : Nat} {la lb l : List Int} (hown : w.ownsRow base e 1 v n (la.map (Value.int k) ++ lb.map (Value.int k))) (h : la ++ lb = l) (hb : ∀ x ∈ la ++ lb, k.min ≤ x ∧ x ≤ k.max) :
    ∃ a c, v = .slice a l.length c ∧ RdI k w a c l := by
  subst h
  exact RdI.own (by simpa using hown) hb

set_option maxHeartbeats 1000000 in
theorem backs_walk (k l c : Int) (a : Option Addr) (ca : Nat) (la : List Int) (b : Option Addr) (cb : Nat) (lb : List Int) (d : Option Addr) (cd : Nat) (le : List Int) (w : World)
    (hk : IntKind.u32.min ≤ k ∧ k ≤ IntKind.u32.max) (hl : IntKind.u32.min ≤ l ∧ l ≤ IntKind.u32.max) (hc : IntKind.u8.min ≤ c ∧ c ≤ IntKind.u8.max) (ha : RdI .u8 w a ca la) (hb : RdI .u8 w b cb lb) (hd : RdI .u8 w d cd le) :
    Calls Try.prog 6 #[.int .u32 k, .int .u32 l, .int .u8 c, .slice a la.length ca, .slice b lb.length cb, .slice d le.length cd] w fun e w' => e = .returned (.bool true) ∧ Below w.heap.size w w' := by
  replace hk := bd_u32 hk
  replace hl := bd_u32 hl
  replace hc := bd_u8 hc
  have hla := ha.len
  have hlb := hb.len
  have hle := hd.len
  have HA := Lib.hid ha; clear ha
  have HB := Lib.hid hb; clear hb
  have HD := Lib.hid hd; clear hd
  by_cases h1 : la.length ≤ 1000
  · by_cases h2 : lb.length ≤ 1000
    · by_cases h3 : le.length ≤ 1000
      · obtain ⟨ae, hae⟩ : ∃ ae, la ++ le = ae := ⟨_, rfl⟩
        obtain ⟨be, hbe⟩ : ∃ be, lb ++ le = be := ⟨_, rfl⟩
        have e1 := backs_e1 (c := c) hk hl
        have e2 := backs_e2 la lb le
        rw [hae, hbe] at e2
        have HAE := Lib.hid hae; clear hae
        have HBE := Lib.hid hbe; clear hbe
        have E1 := Lib.hid e1; clear e1
        have E2 := Lib.hid e2; clear e2
        go_enter Try.func6, Try.ntmps6
        go_wp2_with (first
          | (at_builtin; refine append_rd rfl (.const (.slice none 0 0)) (.tmp 29) et_u8 rfl w.heap.size rfl (World.ownsRow_nil _ _ _ _) rfl HA.out.row (by simp) (ints_one _ _) (by omega) (by omega) (Nat.le_refl _) ?_; intro v1 w1 hown1 hg1; have hb1 : Below w.heap.size w w1 := (Below.refl _ _).grown hg1 (Nat.le_refl _) (fun g hg => (by cases hg)); simp only [Nat.zero_add, List.nil_append] at hown1; have HD1 := Lib.hid (HD.out.below hb1 (Nat.le_refl _)); have HO1 := Lib.hid hown1; clear hown1)
          | (at_builtin; refine append_rd rfl (.tmp 30) (.tmp 31) et_u8 rfl w.heap.size rfl HO1.out rfl HD1.out.row (by simp) (ints_one _ _) (by omega) (by omega) hb1.size ?_; intro v2 w2 hown2 hg2; have hb2 : Below w.heap.size w w2 := hb1.grown hg2 hb1.size (fun g hg => (HO1.out.lt g hg).1); obtain ⟨a2, c2, rfl, hr2⟩ := own_cat hown2 HAE.out (bd_append HA.out HD.out); have HR2 := Lib.hid hr2; clear hr2 hown2))
        refine (of_any1 _ _ _ _ HR2.out).mono ?_
        rintro e w3 ⟨rfl, hb3⟩
        have B3 := bel_then hb2 hb3
        have HB3 := Lib.hid (HB.out.below B3 (Nat.le_refl _))
        have HD3 := Lib.hid (HD.out.below B3 (Nat.le_refl _))
        go_wp2_with (first
          | (at_builtin; refine append_rd rfl (.const (.slice none 0 0)) (.tmp 35) et_u8 rfl w3.heap.size rfl (World.ownsRow_nil _ _ _ _) rfl HB3.out.row (by simp) (ints_one _ _) (by omega) (by omega) (Nat.le_refl _) ?_; intro v4 w4 hown4 hg4; have hb4 : Below w3.heap.size w3 w4 := (Below.refl _ _).grown hg4 (Nat.le_refl _) (fun g hg => (by cases hg)); simp only [Nat.zero_add, List.nil_append] at hown4; have HD4 := Lib.hid (HD3.out.below hb4 (Nat.le_refl _)); have HO4 := Lib.hid hown4; clear hown4)
          | (at_builtin; refine append_rd rfl (.tmp 36) (.tmp 37) et_u8 rfl w3.heap.size rfl HO4.out rfl HD4.out.row (by simp) (ints_one _ _) (by omega) (by omega) hb4.size ?_; intro v5 w5 hown5 hg5; have hb5 : Below w3.heap.size w3 w5 := hb4.grown hg5 hb4.size (fun g hg => (HO4.out.lt g hg).1); obtain ⟨a5, c5, rfl, hr5⟩ := own_cat hown5 HBE.out (bd_append HB.out HD.out); have HR5 := Lib.hid hr5; clear hr5 hown5))
        refine (of_any1 _ _ _ _ HR5.out).mono ?_
        rintro e w6 ⟨rfl, hb6⟩
        have B6 := bel_then (bel_then B3 hb5) hb6
        go_wp2_with fail
        refine (step_any _ _ _ hc.1 hc.2).mono ?_
        rintro e w' ⟨rfl, rfl⟩
        go_wp2_with fail
        refine (step_any _ _ _ hc.1 hc.2).mono ?_
        rintro e w' ⟨rfl, rfl⟩
        have e1 := E1.out
        have e2 := E2.out
        go_wp2_with fail
        refine (same_any _ _ _ _ _ _ _ (HA.out.below B6 (Nat.le_refl _)) (HB.out.below B6 (Nat.le_refl _))).mono ?_
        rintro e w7 ⟨rfl, hb7⟩
        go_wp2_with fail
        refine (known_any _).mono ?_
        rintro e w8 ⟨rfl, hb8⟩
        go_wp2
        go_ret
        exact ⟨rfl, bel_then (bel_then B6 hb7) hb8⟩
      · go_enter Try.func6, Try.ntmps6
        go_wp2_with fail
        refine (known_any _).mono ?_
        rintro e w3 ⟨rfl, hb3⟩
        go_wp2
        go_ret
        exact ⟨rfl, hb3⟩
    · go_enter Try.func6, Try.ntmps6
      go_wp2_with fail
      refine (known_any _).mono ?_
      rintro e w3 ⟨rfl, hb3⟩
      go_wp2
      go_ret
      exact ⟨rfl, hb3⟩
  · go_enter Try.func6, Try.ntmps6
    go_wp2_with fail
    refine (known_any _).mono ?_
    rintro e w3 ⟨rfl, hb3⟩
    go_wp2
    go_ret
    exact ⟨rfl, hb3⟩

end Go.Proofs.Ytflmapokljiljaa
