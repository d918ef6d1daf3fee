/- Contract: sign, of one sign. -/
import Derived.Test.YtdgiijidgjagbaaScanSign
import Derived.Lib.SlBytesConst
namespace Go.Proofs.Ytdgiijidgjagbaa
set_option linter.unusedVariables false
set_option linter.unusedSimpArgs false
open Go.RowKit

variable {F : Nat → Prop} {w w' : World} {g : Nat} {s : Sc} {a : Option Addr} {c : Nat} {n : Value} {m : Nat}

abbrev signV : Array Value := #[.int .u8 43, .int .u8 45, .int .u8 42, .int .u8 47, .int .u8 46, .int .u8 94, .int .u8 38, .int .u8 126, .int .u8 40, .int .u8 41, .int .u8 91, .int .u8 93, .int .u8 123, .int .u8 125, .int .u8 44, .int .u8 59]
theorem signV_at : ∀ i, i < 16 → signV[i]? = some (.int .u8 (signs.getD i 0)) := by
  intro i hi
  rcases (by omega : i = 0 ∨ i = 1 ∨ i = 2 ∨ i = 3 ∨ i = 4 ∨ i = 5 ∨ i = 6 ∨ i = 7 ∨ i = 8 ∨ i = 9 ∨ i = 10 ∨ i = 11 ∨ i = 12 ∨ i = 13 ∨ i = 14 ∨ i = 15) with rfl | rfl | rfl | rfl | rfl | rfl | rfl | rfl | rfl | rfl | rfl | rfl | rfl | rfl | rfl | rfl <;> rfl
theorem index_is (b r : Int) (hb : 0 ≤ b ∧ b < 256) (hr : (if b ∈ signs then ((signs.idxOf b : Nat) : Int) else -1) = r) (w : World) (q : Nat) (hq : ∀ i, w.cell? ⟨q, i, none⟩ = signV[i]?) :
    Calls Try.prog 45 #[.slice (some ⟨q, 0, none⟩) 16 16, .int .u8 b] w fun e w' => e = .returned (.int .i64 r) ∧ w = w' := by
  refine (Try.bytes_IndexByte q 0 16 16 signs b w rfl (fun i hi => by rw [Nat.zero_add, hq]; exact signV_at i hi)).mono fun e w' ⟨he, hw⟩ => ⟨?_, hw.symm⟩
  rw [he, signs_index hb.1 hb.2, hr]

set_option maxRecDepth 20000 in
set_option maxHeartbeats 8000000 in
theorem sign_one (H : ScnX F w g s a c n m) (hlt : s.at' < s.src.length) (b : Int) (hk : ¬ (b = 60 ∨ b = 62 ∨ b = 58)) (hb : s.src.getD s.at' 0 = b) :
    Calls Try.prog 35 #[.pointer (some ⟨g, 0, none⟩)] w (EndIs F w g s.sign a c m) := by
  have HH := Lib.hid H
  have HLT := Lib.hid hlt
  have HB := Lib.hid hb
  obtain ⟨⟨q1, q2⟩, ⟨q3, q4⟩, q5, q6, q7⟩ := wrapAt H.ok.le H.ok.len
  obtain ⟨v2, hv2⟩ : ∃ v2, s.src.getD (s.at' + 1) 0 = v2 := ⟨_, rfl⟩
  have HV2 := Lib.hid hv2
  have hkb : 0 ≤ b ∧ b < 256 := by rw [← hb]; exact H.ok.byte _
  have HKB := Lib.hid hkb
  have t1 : (b == 60) = false := by simpa using (fun h => hk (.inl h))
  have t2 : (b == 62) = false := by simpa using (fun h => hk (.inr (.inl h)))
  have t3 : (b == 58) = false := by simpa using (fun h => hk (.inr (.inr h)))
  have kc := fun (w : World) (C : Array Value) (n c : Nat) => Lib.run_convert_bytes_const (P := Try.prog) w 23 5 C n c Try.underlying23 Try.underlying5
  have f1 : True := trivial
  have f2 : True := trivial
  have f3 : True := trivial
  have f4 : True := trivial
  have f5 : True := trivial
  by_cases h61 : b = 61
  · have hn : s.sign = { s.to (s.at' + 1) with sym := { s.sym with sym := 1 } } := by
      unfold Sc.sign
      rw [hb, if_neg hk, if_pos h61]; rfl
    have HN := Lib.hid hn
    subst h61
    clear H hk hlt hb hv2 hkb hn
    go_enter Try.func35, Try.ntmps35
    go_wp2_with (first | (have _f := f1; refine (ch_is HH.out 61 HB.out).mono ?_; rintro e w1 ⟨rfl, hb⟩; have hx1 := HH.out.bel hb; have HX1 := Lib.hid hx1; have HK1 := Lib.hid (Ke.below (· = g) hb); have c1 : w1.cell? ⟨g, 1, none⟩ = some (.int .i64 s.at') := (hx1.at'.cell 1).trans rfl; clear hb hx1 _f f1) | (have _f := f2; refine scn_store1 rfl 3 (.tmp 14) (.tmp 12) rfl HX1.out (s.to (s.at' + 1)) rfl rfl rfl (by kernel_rfl) rfl rfl rfl rfl HLT.out ?_; intro w2 h2 k2 z2; have HX2 := Lib.hid h2; have HK2 := Lib.hid (HK1.out.trans k2); clear h2 k2 z2 c1 _f f2) | (have _f := f3; refine (ch_is HX2.out v2 HV2.out).mono ?_; rintro e w3 ⟨rfl, hb⟩; have HX5 := Lib.hid (HX2.out.bel hb); have HK5 := Lib.hid (ke_bel HK2.out hb); clear hb _f f3) | (have _f := f5; refine scn_store1 rfl 3 (.tmp 57) (.tmp 54) rfl HX5.out { s.to (s.at' + 1) with sym := { s.sym with sym := 1 } } rfl rfl rfl (by kernel_rfl) rfl rfl rfl rfl HX5.out.ok.le ?_; intro w6 h2 k2 z2; have HX6 := Lib.hid h2; have HK6 := Lib.hid (HK5.out.trans k2); clear h2 k2 z2 _f f5))
    go_end0
    exact ⟨rfl, ⟨n, by rw [HN.out]; exact HX6.out⟩, HH.out.off HK6.out⟩
  · have t4 : (b == 61) = false := by simpa using h61
    by_cases h35 : b = 35
    · have hn : s.sign = { s.to (s.at' + 1) with sym := { s.sym with sym := 2 } } := by
        unfold Sc.sign
        rw [hb, if_neg hk, if_neg h61, if_pos h35]; rfl
      have HN := Lib.hid hn
      subst h35
      clear H hk hlt hb hv2 hkb hn
      go_enter Try.func35, Try.ntmps35
      go_wp2_with (first | (have _f := f1; refine (ch_is HH.out 35 HB.out).mono ?_; rintro e w1 ⟨rfl, hb⟩; have hx1 := HH.out.bel hb; have HX1 := Lib.hid hx1; have HK1 := Lib.hid (Ke.below (· = g) hb); have c1 : w1.cell? ⟨g, 1, none⟩ = some (.int .i64 s.at') := (hx1.at'.cell 1).trans rfl; clear hb hx1 _f f1) | (have _f := f2; refine scn_store1 rfl 3 (.tmp 14) (.tmp 12) rfl HX1.out (s.to (s.at' + 1)) rfl rfl rfl (by kernel_rfl) rfl rfl rfl rfl HLT.out ?_; intro w2 h2 k2 z2; have HX2 := Lib.hid h2; have HK2 := Lib.hid (HK1.out.trans k2); clear h2 k2 z2 c1 _f f2) | (have _f := f3; refine (ch_is HX2.out v2 HV2.out).mono ?_; rintro e w3 ⟨rfl, hb⟩; have HX5 := Lib.hid (HX2.out.bel hb); have HK5 := Lib.hid (ke_bel HK2.out hb); clear hb _f f3) | (have _f := f5; refine scn_store1 rfl 3 (.tmp 57) (.tmp 54) rfl HX5.out { s.to (s.at' + 1) with sym := { s.sym with sym := 2 } } rfl rfl rfl (by kernel_rfl) rfl rfl rfl rfl HX5.out.ok.le ?_; intro w6 h2 k2 z2; have HX6 := Lib.hid h2; have HK6 := Lib.hid (HK5.out.trans k2); clear h2 k2 z2 _f f5))
      go_end0
      exact ⟨rfl, ⟨n, by rw [HN.out]; exact HX6.out⟩, HH.out.off HK6.out⟩
    · have t5 : (b == 35) = false := by simpa using h35
      by_cases hin : b ∈ signs
      · obtain ⟨j, hj⟩ : ∃ j, signs.idxOf b = j := ⟨_, rfl⟩
        have hjl : j < 16 := by rw [← hj]; exact List.idxOf_lt_length_of_mem hin
        have hn : s.sign = { s.to (s.at' + 1) with sym := { s.sym with sym := 7 + (j : Int) } } := by
          unfold Sc.sign
          rw [hb, if_neg hk, if_neg h61, if_neg h35, if_pos hin, hj]; rfl
        have HN := Lib.hid hn
        have HR := Lib.hid (show (if b ∈ signs then ((signs.idxOf b : Nat) : Int) else -1) = (j : Int) by rw [if_pos hin, hj])
        have j1 : (0 : Int) ≤ j := by omega
        have j2 : (j : Int) < 16 := by omega
        clear H hk hlt hb hv2 hkb hn hin hj h61 h35
        go_enter Try.func35, Try.ntmps35
        go_wp2_with (first | (have _f := f1; refine (ch_is HH.out b HB.out).mono ?_; rintro e w1 ⟨rfl, hb⟩; have hx1 := HH.out.bel hb; have HX1 := Lib.hid hx1; have HK1 := Lib.hid (Ke.below (· = g) hb); have c1 : w1.cell? ⟨g, 1, none⟩ = some (.int .i64 s.at') := (hx1.at'.cell 1).trans rfl; clear hb hx1 _f f1) | (have _f := f2; refine scn_store1 rfl 3 (.tmp 14) (.tmp 12) rfl HX1.out (s.to (s.at' + 1)) rfl rfl rfl (by kernel_rfl) rfl rfl rfl rfl HLT.out ?_; intro w2 h2 k2 z2; have HX2 := Lib.hid h2; have HK2 := Lib.hid (HK1.out.trans k2); clear h2 k2 z2 c1 _f f2) | (have _f := f3; refine (ch_is HX2.out v2 HV2.out).mono ?_; rintro e w3 ⟨rfl, hb⟩; have HX5 := Lib.hid (HX2.out.bel hb); have HK5 := Lib.hid (ke_bel HK2.out hb); clear hb _f f3) | (have _f := f4; refine (index_is b (j) HKB.out HR.out _ _ (fun i => cell_of_row _ _ i _ _ _ (heap_alloc_new w3 _))).mono ?_; rintro e w4 ⟨rfl, hw4⟩; have hbw := (show Below w3.heap.size w3 w4 by rw [← hw4]; exact bel1 _ _); have HX5' := HX5; have HK5' := HK5; clear HX5 HK5; have HX5 := Lib.hid (HX5'.out.bel hbw); have HK5 := Lib.hid (ke_bel HK5'.out hbw); clear hw4 hbw HX5' HK5' _f f4) | (have _f := f5; refine scn_store1 rfl 3 (.tmp 57) (.tmp 54) rfl HX5.out { s.to (s.at' + 1) with sym := { s.sym with sym := 7 + (j : Int) } } rfl rfl rfl (by kernel_rfl) rfl rfl rfl rfl HX5.out.ok.le ?_; intro w6 h2 k2 z2; have HX6 := Lib.hid h2; have HK6 := Lib.hid (HK5.out.trans k2); clear h2 k2 z2 _f f5))
        go_end0
        exact ⟨rfl, ⟨n, by rw [HN.out]; exact HX6.out⟩, HH.out.off HK6.out⟩
      · have hn : s.sign = (s.to (s.at' + 1)).mark 1 := by
          unfold Sc.sign
          rw [hb, if_neg hk, if_neg h61, if_neg h35, if_neg hin]; rfl
        have HN := Lib.hid hn
        have HR := Lib.hid (show (if b ∈ signs then ((signs.idxOf b : Nat) : Int) else -1) = (-1 : Int) by rw [if_neg hin])
        clear H hk hlt hb hv2 hkb hn hin h61 h35
        go_enter Try.func35, Try.ntmps35
        go_wp2_with (first | (have _f := f1; refine (ch_is HH.out b HB.out).mono ?_; rintro e w1 ⟨rfl, hb⟩; have hx1 := HH.out.bel hb; have HX1 := Lib.hid hx1; have HK1 := Lib.hid (Ke.below (· = g) hb); have c1 : w1.cell? ⟨g, 1, none⟩ = some (.int .i64 s.at') := (hx1.at'.cell 1).trans rfl; clear hb hx1 _f f1) | (have _f := f2; refine scn_store1 rfl 3 (.tmp 14) (.tmp 12) rfl HX1.out (s.to (s.at' + 1)) rfl rfl rfl (by kernel_rfl) rfl rfl rfl rfl HLT.out ?_; intro w2 h2 k2 z2; have HX2 := Lib.hid h2; have HK2 := Lib.hid (HK1.out.trans k2); clear h2 k2 z2 c1 _f f2) | (have _f := f3; refine (ch_is HX2.out v2 HV2.out).mono ?_; rintro e w3 ⟨rfl, hb⟩; have HX5 := Lib.hid (HX2.out.bel hb); have HK5 := Lib.hid (ke_bel HK2.out hb); clear hb _f f3) | (have _f := f4; refine (index_is b (-1) HKB.out HR.out _ _ (fun i => cell_of_row _ _ i _ _ _ (heap_alloc_new w3 _))).mono ?_; rintro e w4 ⟨rfl, hw4⟩; have hbw := (show Below w3.heap.size w3 w4 by rw [← hw4]; exact bel1 _ _); have HX5' := HX5; have HK5' := HK5; clear HX5 HK5; have HX5 := Lib.hid (HX5'.out.bel hbw); have HK5 := Lib.hid (ke_bel HK5'.out hbw); clear hw4 hbw HX5' HK5' _f f4) | (refine (mark_walk HX5.out 1).mono ?_; rintro e w6 ⟨rfl, h1, h2, h3⟩; have HX6 := Lib.hid h1; have HK6 := Lib.hid (HK5.out.trans h2); clear h1 h2 h3))
        go_end0
        exact ⟨rfl, ⟨n, by rw [HN.out]; exact HX6.out⟩, HH.out.off HK6.out⟩

theorem sign_walk (H : ScnX F w g s a c n m) (hlt : s.at' < s.src.length) :
    Calls Try.prog 35 #[.pointer (some ⟨g, 0, none⟩)] w (EndIs F w g s.sign a c m) := by
  by_cases h : s.src.getD s.at' 0 = 60 ∨ s.src.getD s.at' 0 = 62 ∨ s.src.getD s.at' 0 = 58
  · rcases h with h | h | h
    · exact sign_two H hlt 60 3 (.inl ⟨rfl, rfl⟩) h
    · exact sign_two H hlt 62 5 (.inr (.inl ⟨rfl, rfl⟩)) h
    · exact sign_two H hlt 58 23 (.inr (.inr ⟨rfl, rfl⟩)) h
  · exact sign_one H hlt _ h rfl

end Go.Proofs.Ytdgiijidgjagbaa
