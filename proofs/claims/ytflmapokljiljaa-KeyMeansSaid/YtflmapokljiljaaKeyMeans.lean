/- The walk of KeyMeans. -/
import Derived.Test.YtflmapokljiljaaKeyBacks
import Derived.Test.YtflmapokljiljaaMix
import Derived.Deep.AppendLies
namespace Go.Proofs.Ytflmapokljiljaa
open Go.RowKit

theorem on_n (k : Int) (a : Option Addr) (l : List Int) (n cap : Nat) (w : World) (hn : l.length = n) (hr : RdI .u8 w a cap l) (K : Int) (hK : Key.on k l = K) :
    Calls Try.prog 13 #[.int .u32 k, .slice a n cap] w fun e w' => e = .returned (.int .u32 K) ∧ Below w.heap.size w w' := by
  subst hn; subst hK; exact on_any k a l cap w hr
theorem of_n (a : Option Addr) (l : List Int) (n c : Nat) (w : World) (hn : l.length = n) (h : RdI .u8 w a c l) :
    Calls Try.prog 10 #[.slice (some ⟨w.heap.size, 0, none⟩) 1 1] (w.alloc (.cells #[.slice a n c] 25)) fun e w' => e = .returned (.int .u32 (Key.of l)) ∧ Below w.heap.size w w' ∧ Below (w.heap.size + 1) (w.alloc (.cells #[.slice a n c] 25)) w' := by
  subst hn
  refine (of_any (some ⟨w.heap.size, 0, none⟩) [l] 1 _ (RdII.one _ h)).mono ?_
  rintro e w' ⟨rfl, hb⟩
  rw [World.size_alloc] at hb
  exact ⟨ret_int (by rw [of_one]), ((Below.refl _ w).alloc (Nat.le_refl _) _).trans (hb.mono (by omega)), hb⟩

theorem same_n (a b : Option Addr) (la lb : List Int) (na nb ca cb : Nat) (w : World) (hna : la.length = na) (hnb : lb.length = nb) (ha : RdI .u8 w a ca la) (hb : RdI .u8 w b cb lb) :
    Calls Try.prog 14 #[.slice a na ca, .slice b nb cb] w fun e w' => e = .returned (.bool (Key.of la == Key.of lb)) ∧ Below w.heap.size w w' := by
  subst hna; subst hnb; exact same_any a b la lb ca cb w ha hb

theorem of_set (l : List Int) (j : Nat) (c : Int) (hj : j < l.length) (hl : ∀ x ∈ l, 0 ≤ x ∧ x < 256) (hc : 0 ≤ c ∧ c < 256) : (Key.of (l.set j c) == Key.of l) = (c == l.getD j 0) := by
  rw [Bool.eq_iff_iff, beq_iff_eq, beq_iff_eq]
  have e : l.getD j 0 = l[j] := by rw [List.getD_eq_getElem?_getD, List.getElem?_eq_getElem hj]; rfl
  have h1 : l = l.take j ++ l[j] :: l.drop (j + 1) := by rw [List.getElem_cons_drop hj, List.take_append_drop]
  have h2 : l.set j c = l.take j ++ c :: l.drop (j + 1) := List.set_eq_take_append_cons_drop.trans (if_pos hj)
  rw [e]
  constructor
  · intro h
    rw [h2] at h
    conv at h => rhs; rw [h1]
    unfold Key.of at h
    rw [Key.on_append, Key.on_append, Key.on_cons, Key.on_cons] at h
    have h3 := Key.on_inj _ (Key.step_lo _ _) (Key.step_hi _ _) (Key.step_lo _ _) (Key.step_hi _ _) h
    have h4 := hl l[j] (List.getElem_mem hj)
    exact Key.step_byte hc.1 hc.2 h4.1 h4.2 h3
  · intro h
    rw [h, List.set_getElem_self]

set_option maxHeartbeats 1000000 in
theorem means_walk (a : Option Addr) (ca : Nat) (lb : List Int) (ix cut c : Int) (w : World)
    (ha : RdI .u8 w a ca lb) (hix : IntKind.i64.min ≤ ix ∧ ix ≤ IntKind.i64.max) (hcut : IntKind.i64.min ≤ cut ∧ cut ≤ IntKind.i64.max) (hc : IntKind.u8.min ≤ c ∧ c ≤ IntKind.u8.max) :
    Calls Try.prog 5 #[.slice a lb.length ca, .int .i64 ix, .int .i64 cut, .int .u8 c] w fun e w' => e = .returned (.bool true) ∧ Below w.heap.size w w' := by
  replace hix := bd_i64 hix
  replace hcut := bd_i64 hcut
  replace hc := bd_u8 hc
  have hla := ha.len
  have HA := Lib.hid ha; clear ha
  by_cases hgood : lb.length ≤ 3000 ∧ 0 ≤ ix ∧ ix < lb.length ∧ 0 ≤ cut ∧ cut ≤ lb.length
  · obtain ⟨h1, h2, h3, h4, h5⟩ := hgood
    obtain ⟨j, rfl⟩ := Int.eq_ofNat_of_zero_le h2
    obtain ⟨k, rfl⟩ := Int.eq_ofNat_of_zero_le h4
    obtain ⟨bb, oo, hat, hcell⟩ := HA.out.cells
    obtain ⟨rfl, hbl⟩ := hat (by omega)
    clear hat
    have hxc := hcell j (by omega)
    have hxb := HA.out.u8 j (by omega)
    clear hcell
    have hle := HA.out.row.le
    have hca := HA.out.row.cap
    unfold maxLen at hca
    have hkc : k ≤ ca := by omega
    have i1 : (k : Int) ≤ (ca : Int) := by omega
    go_enter Try.func5, Try.ntmps5
    go_wp2_with fail
    refine (known_any _).mono ?_
    rintro e w1 ⟨rfl, hb1⟩
    go_wp2_with fail
    refine (of_any1 _ _ _ _ (HA.out.below hb1 (Nat.le_refl _))).mono ?_
    rintro e w2 ⟨rfl, hb2⟩
    have B2 := bel_then hb1 hb2
    have HA2 := Lib.hid (HA.out.below B2 (Nat.le_refl _))
    have ht := (HA2.out.take k (by omega)).1
    have hd := (HA2.out.drop k (by omega)).1
    have HT := Lib.hid ht
    have HTL := Lib.hid (HA2.out.take k (by omega)).2
    have HDL := Lib.hid (HA2.out.drop k (by omega)).2
    have hk1 : Key.on (Key.of (lb.take k)) (lb.drop k) = Key.of lb := by
      unfold Key.of; rw [← Key.on_append, List.take_append_drop]
    have HK1 := Lib.hid hk1; clear hk1
    have hk2 : Key.on 2166136261 (lb.take k) = Key.of (lb.take k) := rfl
    have HK2 := Lib.hid hk2; clear hk2
    by_cases hcc : ca = k
    case' pos =>
      subst hcc
      rw [if_pos rfl, Nat.sub_self] at hd
      replace HDL := Lib.hid (show (lb.drop ca).length = 0 by have := HDL.out; omega)
      have HD := Lib.hid hd
      clear ht hd
    case' neg =>
      rw [if_neg hcc] at hd
      have HD := Lib.hid hd
      clear ht hd
    all_goals
      go_wp2
      refine wp_region_mix' [([0, 1, 2, 5, 6, 7, 9], 3), ([], 4), ([], 8), ([10, 11, 13, 14, 15, 17, 18, 19, 21], 12), ([], 16), ([], 20), ([22, 23, 24, 25, 26], 27)] [28, 29] (by kernel_rfl) (by kernel_rfl) (fun _ _ d _ _ h => by cases d <;> exact h) ?_
      intro wd hbd
      have HT2 := Lib.hid (HT.out.below hbd (Nat.le_refl _))
      refine mix_step ?_
      simp only [pickOps, nth]
      repeat (go_big_quiet_step (fail))
      refine wpQuiet_nil ?_
      go_wp2_with fail
      refine ⟨(Below.refl _ _).alloc (Nat.le_refl _) _, mix_step ?_⟩
      simp only [pickOps, nth]
      repeat (go_big_quiet_step (fail))
      refine wpQuiet_nil ?_
      go_wp2_with fail
      refine (of_n _ _ _ _ _ HTL.out HT2.out).mono ?_
      rintro e w3 ⟨rfl, hb3, hb3'⟩
      have B3 := bel_then hbd hb3
      have HD3 := Lib.hid (HD.out.below B3 (Nat.le_refl _))
      go_wp2_with fail
      refine ⟨by simpa using hb3', mix_step ?_⟩
      simp only [pickOps, nth]
      repeat (go_big_quiet_step (fail))
      refine wpQuiet_nil ?_
      go_wp2_with fail
      refine (on_n _ _ _ _ _ _ HDL.out HD3.out _ HK1.out).mono ?_
      rintro e w4 ⟨rfl, hb4⟩
      have B4 := bel_then B3 hb4
      have HT4 := Lib.hid (HT.out.below B4 (Nat.le_refl _))
      go_wp2_with fail
      refine ⟨hb4, mix_step ?_⟩
      simp only [pickOps, nth]
      repeat (go_big_quiet_step (fail))
      refine wpQuiet_nil ?_
      go_wp2_with fail
      refine (start_any _).mono ?_
      rintro e w' ⟨rfl, rfl⟩
      go_wp2_with fail
      refine ⟨Below.refl _ _, mix_step ?_⟩
      simp only [pickOps, nth]
      repeat (go_big_quiet_step (fail))
      refine wpQuiet_nil ?_
      go_wp2_with fail
      refine (on_n _ _ _ _ _ _ HTL.out HT4.out _ HK2.out).mono ?_
      rintro e w5 ⟨rfl, hb5⟩
      have B5 := bel_then B4 hb5
      have HD5 := Lib.hid (HD.out.below B5 (Nat.le_refl _))
      go_wp2_with fail
      refine ⟨hb5, mix_step ?_⟩
      simp only [pickOps, nth]
      repeat (go_big_quiet_step (fail))
      refine wpQuiet_nil ?_
      go_wp2_with fail
      refine (on_n _ _ _ _ _ _ HDL.out HD5.out _ HK1.out).mono ?_
      rintro e w6 ⟨rfl, hb6⟩
      have B6 := bel_then B5 hb6
      have HA6 := Lib.hid (HA2.out.below B6 (Nat.le_refl _))
      go_wp2_with fail
      refine ⟨hb6, mix_step ?_⟩
      simp only [pickOps, nth]
      repeat (go_big_quiet_step (fail))
      refine wpQuiet_nil ?_
      go_wp2_with fail
      refine (same_any _ _ _ _ _ _ _ HA6.out HA6.out).mono ?_
      rintro e w7 ⟨rfl, hb7⟩
      have B7 := bel_then B6 hb7
      have HA7 := Lib.hid (HA2.out.below B7 (Nat.le_refl _))
      go_wp2_with fail
      refine ⟨hb7, mix_end ?_⟩
      simp only [pickOps, nth]
      repeat (go_big_quiet_step (fail))
      refine wpQuiet_nil ?_
      go_wp2_with (first
        | (at_builtin; refine append_rd rfl (.const (.slice none 0 0)) (.tmp 69) et_u8 rfl w7.heap.size rfl (World.ownsRow_nil _ _ _ _) rfl HA7.out.row (by simp) (ints_one _ _) (by omega) (by omega) (Nat.le_refl _) ?_; intro v8 w8 hown8 hg8; simp only [Nat.zero_add, List.nil_append] at hown8; have hb8 : Below w7.heap.size w7 w8 := (Below.refl _ _).grown hg8 (Nat.le_refl _) (fun g hg => (by cases hg)); obtain ⟨g, cap, rfl, hgl, hgh⟩ := hown8.form (by omega); have hcg := hown8.cellAt j (by omega); rw [List.getElem?_map, List.getElem?_eq_getElem (by omega)] at hcg; have hfg := hown8.frozenAt j; have hsto := hown8.stored j (.int .u8 c); have HSTO := Lib.hid hsto; clear hsto hown8))
      have hb9 : Below w7.heap.size w7 (w8.setCell ⟨g, j, none⟩ (.int .u8 c)) := hb8.setCell hgl _
      obtain ⟨lo, hlo⟩ : ∃ lo, lo = lb.set j c := ⟨_, rfl⟩
      have hll : lo.length = lb.length := by rw [hlo, List.length_set]
      have how : RdI .u8 (w8.setCell ⟨g, j, none⟩ (.int .u8 c)) (some ⟨g, 0, none⟩) cap lo := by
        have h := HSTO.out.1
        rw [← List.map_set, ← hlo] at h
        obtain ⟨a9, c9, h9, h10⟩ := RdI.own h (by
          intro x hx
          rw [hlo] at hx
          rcases List.mem_or_eq_of_mem_set hx with h | h
          · exact HA.out.bd x h
          · rw [h]; exact bd_u8' hc)
        simp only [Value.slice.injEq] at h9
        obtain ⟨h11, h12, h13⟩ := h9
        subst h11; subst h13
        exact h10
      have hE := of_set lb j c (by omega) (fun x hx => bd_u8 (HA.out.bd x hx)) hc
      rw [← hlo] at hE
      have HE := Lib.hid hE
      have HO := Lib.hid how
      have HLL := Lib.hid hll
      clear hE how hll hlo hcg hfg
      refine wp_region_mix' [([0, 3, 5, 6, 7, 8, 9, 10], 1), ([], 2), ([4, 11, 12, 13, 14, 16, 17, 18, 19, 20, 21], 15)] [22, 23, 24] (by kernel_rfl) (by kernel_rfl) (fun _ _ d _ _ h => by cases d <;> exact h) ?_
      intro we hbe
      have B9 := (bel_then (bel_then B2 B7) hb9)
      have Be := bel_then B9 hbe
      have hxe := (Be.cell (p := ⟨bb, oo + j, none⟩) hbl).trans hxc
      obtain ⟨x, hx⟩ : ∃ x, x = lb.getD j 0 := ⟨_, rfl⟩
      rw [← hx] at hxe hxc HE
      clear hx hxb
      have hlt : bb < we.heap.size := Nat.lt_of_lt_of_le hbl Be.size
      have hl1 := later_cell (p := ⟨bb, oo + j, none⟩) hlt hxe
      have i2 : (0 : Int) ≤ (j : Int) := by omega
      refine mix_step ?_
      simp only [pickOps, nth]
      repeat (go_big_quiet_step (fail))
      refine wpQuiet_nil ?_
      go_wp2_with fail
      refine ⟨(Below.refl _ _).alloc (Nat.le_refl _) _, mix_step ?_⟩
      simp only [pickOps, nth]
      repeat (go_big_quiet_step (fail))
      refine wpQuiet_nil ?_
      go_wp2_with fail
      refine (of_n _ _ _ _ _ HLL.out (HO.out.below hbe (Nat.le_refl _))).mono ?_
      rintro e w11 ⟨rfl, hb11, hb11'⟩
      have B11 := bel_then Be hb11
      have hl2 := later_cell (p := ⟨bb, oo + j, none⟩) (Nat.lt_of_lt_of_le hbl B11.size) ((B11.cell (p := ⟨bb, oo + j, none⟩) hbl).trans hxc)
      have hE := HE.out
      go_wp2_with fail
      refine ⟨by simpa using hb11', mix_step ?_⟩
      simp only [pickOps, nth]
      repeat (go_big_quiet_step (fail))
      refine wpQuiet_nil ?_
      go_wp2_with fail
      refine (same_n _ _ _ _ _ _ _ _ _ HLL.out rfl ((HO.out.below hbe (Nat.le_refl _)).below hb11 (Nat.le_refl _)) (HA.out.below B11 (Nat.le_refl _))).mono ?_
      rintro e w12 ⟨rfl, hb12⟩
      go_wp2_with fail
      refine ⟨hb12, mix_end ?_⟩
      simp only [pickOps, nth]
      repeat (go_big_quiet_step (fail))
      refine wpQuiet_nil ?_
      go_wp2_with fail
      go_ret
      exact ⟨rfl, bel_then B11 hb12⟩
  · by_cases g1 : lb.length ≤ 3000
    · by_cases g2 : 0 ≤ ix
      · by_cases g3 : ix < lb.length
        · by_cases g4 : 0 ≤ cut
          all_goals
            go_enter Try.func5, Try.ntmps5
            go_wp2_with fail
            refine (known_any _).mono ?_
            rintro e w1 ⟨rfl, hb1⟩
            go_wp2_with fail
            go_ret
            exact ⟨rfl, hb1⟩
        · go_enter Try.func5, Try.ntmps5
          go_wp2_with fail
          refine (known_any _).mono ?_
          rintro e w1 ⟨rfl, hb1⟩
          go_wp2_with fail
          go_ret
          exact ⟨rfl, hb1⟩
      · go_enter Try.func5, Try.ntmps5
        go_wp2_with fail
        refine (known_any _).mono ?_
        rintro e w1 ⟨rfl, hb1⟩
        go_wp2_with fail
        go_ret
        exact ⟨rfl, hb1⟩
    · go_enter Try.func5, Try.ntmps5
      go_wp2_with fail
      refine (known_any _).mono ?_
      rintro e w1 ⟨rfl, hb1⟩
      go_wp2_with fail
      go_ret
      exact ⟨rfl, hb1⟩

end Go.Proofs.Ytflmapokljiljaa
