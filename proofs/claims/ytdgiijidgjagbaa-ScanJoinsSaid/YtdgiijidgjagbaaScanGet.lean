/- Contract: Get. -/
import Derived.Test.YtdgiijidgjagbaaScanSign2
import Derived.Test.YtdgiijidgjagbaaScanNumH
import Derived.Test.YtdgiijidgjagbaaScanNumX
import Derived.Test.YtdgiijidgjagbaaScanNumD
namespace Go.Proofs.Ytdgiijidgjagbaa
set_option linter.unusedVariables false
set_option linter.unusedSimpArgs false
open Go.RowKit

variable {F : Nat → Prop} {w w' : World} {g : Nat} {s : Sc} {a : Option Addr} {c : Nat} {n : Value} {m : Nat}

theorem number_walk (H : ScnX F w g s a c n m) (h0 : digitB (s.src.getD s.at' 0) = true) :
    Calls Try.prog 33 #[.pointer (some ⟨g, 0, none⟩)] w (EndIs F w g s.number a c m) := by
  by_cases h1 : s.src.getD (run hexB s.src s.at') 0 = 72
  · exact number_H H h0 h1
  · by_cases h2 : s.src.getD (run hexB s.src s.at') 0 = 88
    · exact number_X H h0 h2
    · exact number_D H h0 ⟨h1, h2⟩

def Sc.start (s : Sc) (i : Nat) : Sc := { s with at' := i, sym := Sym.at i }

set_option maxRecDepth 20000 in
set_option maxHeartbeats 8000000 in
theorem get_walk (H : ScnX F w g s a c n m) (hF : ∀ k, F k → k < w.heap.size) :
    Calls Try.prog 14 #[.pointer (some ⟨g, 0, none⟩)] w (EndIs F w g s.get a c m) := by
  have HH := Lib.hid H
  have HF := Lib.hid hF
  have c9 : w.cell? ⟨g, 9, none⟩ = some (.int .i64 s.err) := (H.at'.cell 9).trans rfl
  have ht := there_walk H
  by_cases he : s.err = 0
  · have hsk := skip_walk H he
    unfold SkipIs at hsk
    have hle := blank_le (s := s.src) H.ok.le
    rw [he] at c9
    have HE := Lib.hid he
    have f0 : True := trivial
    have f1 : True := trivial
    have f2 : True := trivial
    cases hb : (blank s.src s.at').1
    · rw [hb] at hsk
      have e : s.get = s.skipped := by
        unfold Sc.get Sc.skipped
        rw [if_neg (by rw [he]; simp)]
        simp only [hb]; rfl
      rw [e]
      clear H hF hb hle e he
      go_enter Try.func14, Try.ntmps14
      go_wp2_with (first | (refine ht.mono ?_; rintro e w' ⟨rfl, rfl⟩) | (refine hsk.mono ?_; rintro e w1 ⟨rfl, h1, k1⟩; have HX1 := Lib.hid h1; have HK1 := Lib.hid k1; clear h1 k1))
      go_end0
      exact ⟨rfl, ⟨n, HX1.out⟩, HH.out.off HK1.out⟩
    · obtain ⟨i, hi⟩ : ∃ i, (blank s.src s.at').2 = i := ⟨_, rfl⟩
      rw [hi] at hle
      have hs : s.skipped = s.to i := by unfold Sc.skipped; rw [hb, hi]; rfl
      rw [hb, hs] at hsk
      have HIL := Lib.hid hle.2
      obtain ⟨b, hbb⟩ : ∃ b, s.src.getD i 0 = b := ⟨_, rfl⟩
      have HBB := Lib.hid hbb
      have hg : s.get = if s.src.length ≤ i then s.start i else if letterB b then (s.start i).name else if digitB b then (s.start i).number else if b = 34 then (s.start i).text else (s.start i).sign := by
        unfold Sc.get
        rw [if_neg (by rw [he]; simp)]
        simp only [hb, hi, hbb]; rfl
      obtain ⟨⟨q1, q2⟩, ⟨q3, q4⟩, q5, q6, q7⟩ := wrapAt hle.2 H.ok.len
      have HG := Lib.hid hg
      clear H hF hb hle hs he hi hg q1 q2 q3 q4 hbb
      go_enter Try.func14, Try.ntmps14
      go_wp2_with (first | (refine ht.mono ?_; rintro e w' ⟨rfl, rfl⟩) | (have _f := f0; refine hsk.mono ?_; rintro e w1 ⟨rfl, h1, k1⟩; have HX1 := Lib.hid h1; have HK1 := Lib.hid k1; have c1 : w1.cell? ⟨g, 1, none⟩ = some (.int .i64 i) := (h1.at'.cell 1).trans rfl; clear h1 k1 c9 hsk _f f0) | (have _f := f1; refine scn_store5 rfl 30 (.tmp 25) (.tmp 23) rfl HX1.out (s.start i) (vs := [.int .i64 0, .int .i64 i, .int .i32 0, .int .i64 0, .string ⟨#[]⟩]) rfl rfl rfl (by kernel_rfl) (by simp [Value.oneCell']) rfl rfl rfl HIL.out ?_; intro w2 h2 k2 z2; have HX2 := Lib.hid h2; have HK2 := Lib.hid (HK1.out.trans k2); clear h2 k2 z2 c1 _f f1) | (have _f := f2; refine (ch_is HX2.out b HBB.out).mono ?_; rintro e w3 ⟨rfl, hb⟩; have hx3 := HX2.out.bel hb; have HX3 := Lib.hid hx3; have HK3 := Lib.hid (ke_bel HK2.out hb); have d0 : w3.cell? ⟨g, 0, none⟩ = some (.slice a s.src.length c) := (hx3.at'.cell 0).trans rfl; have d1 : w3.cell? ⟨g, 1, none⟩ = some (.int .i64 i) := (hx3.at'.cell 1).trans rfl; clear hb hx3 _f f2))
      by_cases hil : i < s.src.length
      · have i3 : (i : Int) < s.src.length := by omega
        have HX4 := fun nq => HX3.out.bel (belN w3 nq)
        have HF4 := Lib.hid (fun nq => (fun k hk => Nat.lt_of_lt_of_le (HF.out k hk) (Nat.le_trans HK3.out.size (belN w3 nq).size) : ∀ k, F k → k < (w3.drewN nq).heap.size))
        have HX5 := Lib.hid HX4
        clear HX4
        by_cases hl : letterB b = true
        · have HN : Hid (s.get = (s.start i).name) := Lib.hid (by rw [HG.out, if_neg (by omega), if_pos hl])
          go_quiet (fail)
          go_wp2_with (first | (refine (letter_is b _ hl _).mono ?_; rintro e w' ⟨rfl, rfl⟩) | (refine (name_walk (HX5.out _) (HF4.out _)).mono ?_; rintro e w4 ⟨rfl, h4, k4⟩; have HE4 := Lib.hid h4; have HK4 := Lib.hid ((Ke.below (Off F) (belN w3 _)).trans k4); clear h4 k4))
          go_end0
          exact ⟨rfl, by rw [HN.out]; exact HE4.out, (HH.out.off HK3.out).trans HK4.out⟩
        · have hl' : letterB b = false := by simpa using hl
          by_cases hd : digitB b = true
          · have HN : Hid (s.get = (s.start i).number) := Lib.hid (by rw [HG.out, if_neg (by omega), if_neg hl, if_pos hd])
            have HD := Lib.hid (show digitB ((s.start i).src.getD (s.start i).at' 0) = true by rw [show (s.start i).src.getD (s.start i).at' 0 = b from HBB.out]; exact hd)
            go_quiet (fail)
            go_wp2_with (first | (refine (letter_is b _ hl' _).mono ?_; rintro e w' ⟨rfl, rfl⟩) | (refine (digit_is b _ hd _).mono ?_; rintro e w' ⟨rfl, rfl⟩) | (refine (number_walk (HX5.out _) HD.out).mono ?_; rintro e w4 ⟨rfl, h4, k4⟩; have HE4 := Lib.hid h4; have HK4 := Lib.hid ((Ke.below (Off F) (belN w3 _)).trans k4); clear h4 k4))
            go_end0
            exact ⟨rfl, by rw [HN.out]; exact HE4.out, (HH.out.off HK3.out).trans HK4.out⟩
          · have hd' : digitB b = false := by simpa using hd
            by_cases h34 : b = 34
            · have HN : Hid (s.get = (s.start i).text) := Lib.hid (by rw [HG.out, if_neg (by omega), if_neg hl, if_neg hd, if_pos h34])
              have HI := Lib.hid hil
              subst h34
              go_quiet (fail)
              go_wp2_with (first | (refine (letter_is 34 _ hl' _).mono ?_; rintro e w' ⟨rfl, rfl⟩) | (refine (digit_is 34 _ hd' _).mono ?_; rintro e w' ⟨rfl, rfl⟩) | (refine (text_walk (HX5.out _) HI.out).mono ?_; rintro e w4 ⟨rfl, h4, k4⟩; have HE4 := Lib.hid h4; have HK4 := Lib.hid ((Ke.below (Off F) (belN w3 _)).trans k4); clear h4 k4))
              go_end0
              exact ⟨rfl, by rw [HN.out]; exact HE4.out, (HH.out.off HK3.out).trans HK4.out⟩
            · have HN : Hid (s.get = (s.start i).sign) := Lib.hid (by rw [HG.out, if_neg (by omega), if_neg hl, if_neg hd, if_neg h34])
              have HI := Lib.hid hil
              have g34 : (b == 34) = false := by simpa using h34
              go_quiet (fail)
              go_wp2_with (first | (refine (letter_is b _ hl' _).mono ?_; rintro e w' ⟨rfl, rfl⟩) | (refine (digit_is b _ hd' _).mono ?_; rintro e w' ⟨rfl, rfl⟩) | (refine (sign_walk (HX5.out _) HI.out).mono ?_; rintro e w4 ⟨rfl, h4, k4⟩; have HE4 := Lib.hid h4; have HK4 := Lib.hid ((Ke.below (Off F) (belN w3 _)).trans k4); clear h4 k4))
              go_end0
              exact ⟨rfl, by rw [HN.out]; exact HE4.out, (HH.out.off HK3.out).trans HK4.out⟩
      · have i3 : decide ((i : Int) < s.src.length) = false := decide_eq_false (by omega)
        have i4 : s.src.length ≤ i := by omega
        have HN : Hid (s.get = s.start i) := Lib.hid (by rw [HG.out, if_pos i4])
        go_quiet (fail)
        go_wp2_with (refine scn_store1 rfl 3 (.tmp 44) (.const (.int .i64 0)) rfl (HX3.out.bel (belN _ _)) (s.start i) rfl rfl rfl (by kernel_rfl) rfl rfl rfl rfl HIL.out ?_; intro w4 h2 k2 z2; have HX4 := Lib.hid h2; have HK4 := Lib.hid ((ke_bel HK3.out (belN _ _)).trans k2); clear h2 k2 z2)
        go_end0
        exact ⟨rfl, ⟨n, by rw [HN.out]; exact HX4.out⟩, HH.out.off HK4.out⟩
  · have e : s.get = s := by unfold Sc.get; rw [if_pos he]
    rw [e]
    have he' : (s.err == 0) = false := by simpa using he
    clear H hF e
    go_enter Try.func14, Try.ntmps14
    go_wp2_with (refine ht.mono ?_; rintro e w' ⟨rfl, rfl⟩)
    go_end0
    exact ⟨rfl, ⟨n, HH.out⟩, Ke.refl _ _⟩

end Go.Proofs.Ytdgiijidgjagbaa
