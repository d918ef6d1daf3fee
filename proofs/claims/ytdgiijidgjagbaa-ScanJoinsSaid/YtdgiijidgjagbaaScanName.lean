/- Contracts: keywords, predeclared, name. -/
import Derived.Test.YtdgiijidgjagbaaScanIntern
import Derived.Test.YtdgiijidgjagbaaCutRun
import Derived.Test.YtdgiijidgjagbaaDo
namespace Go.Proofs.Ytdgiijidgjagbaa
set_option linter.unusedVariables false
set_option linter.unusedSimpArgs false
open Go.RowKit

variable {F : Nat → Prop} {w w' : World} {g : Nat} {s : Sc} {a : Option Addr} {c : Nat} {n : Value} {m : Nat}

theorem ch_is (H : ScnX F w g s a c n m) (v : Int) (hv : s.src.getD s.at' 0 = v) : Calls Try.prog 29 #[.pointer (some ⟨g, 0, none⟩)] w fun e w' => e = .returned (.int .u8 v) ∧ Below w.heap.size w w' := hv ▸ ch_walk H
theorem letter_is (b : Int) (r : Bool) (h : letterB b = r) (w : World) : Calls Try.prog 30 #[.int .u8 b] w fun e w' => e = .returned (.bool r) ∧ w = w' := h ▸ letter_walk b w
theorem digit_is (b : Int) (r : Bool) (h : digitB b = r) (w : World) : Calls Try.prog 32 #[.int .u8 b] w fun e w' => e = .returned (.bool r) ∧ w = w' := h ▸ digit_walk b w
theorem hex_is (b : Int) (r : Bool) (h : hexB b = r) (w : World) : Calls Try.prog 44 #[.int .u8 b] w fun e w' => e = .returned (.bool r) ∧ w = w' := h ▸ hex_walk b w
theorem intern_is (H : ScnX F w g s a c n m) (x : List UInt8) (hx : x.length ≤ 100000) (hF : ∀ k, F k → k < w.heap.size) (i : Int) (s' : Sc) (h : s.intern x = (i, s')) (xb : ByteArray) (hxb : nameV x = .string xb) :
    Calls Try.prog 42 #[.pointer (some ⟨g, 0, none⟩), .string xb] w fun e w' => e = .returned (.int .i64 i) ∧ (∃ n', ScnX F w' g s' a c n' m) ∧ Ke (Off F) w w' := by
  have := intern_walk H x hx hF
  rw [h, hxb] at this
  exact this

def kwB : List (List UInt8) := [[65, 82, 82, 65, 89], [66, 69, 71, 73, 78], [67, 79, 78, 83, 84], [68, 73, 86], [68, 79], [69, 76, 83, 69], [69, 76, 83, 73, 70], [69, 78, 68], [70, 65, 76, 83, 69], [73, 70], [73, 77, 80, 79, 82, 84], [73, 78], [77, 79, 68], [77, 79, 68, 85, 76, 69], [78, 73, 76], [79, 70], [79, 82], [80, 79, 73, 78, 84, 69, 82], [80, 82, 79, 67, 69, 68, 85, 82, 69], [82, 69, 67, 79, 82, 68], [82, 69, 80, 69, 65, 84], [82, 69, 84, 85, 82, 78], [84, 72, 69, 78], [84, 79], [84, 82, 85, 69], [84, 89, 80, 69], [85, 78, 84, 73, 76], [86, 65, 82], [87, 72, 73, 76, 69]]
def preB : List (List UInt8) := [[73, 78, 84, 69, 71, 69, 82], [66, 79, 79, 76, 69, 65, 78], [67, 72, 65, 82], [66, 89, 84, 69], [83, 69, 84], [65, 66, 83], [79, 68, 68], [79, 82, 68], [67, 72, 82], [76, 83, 76], [65, 83, 82], [76, 69, 78], [79, 76, 68], [70, 82, 69, 83, 72], [69, 79, 70], [76, 69, 78, 71, 84, 72], [73, 78, 67], [68, 69, 67], [78, 69, 87], [65, 83, 83, 69, 82, 84], [72, 65, 76, 84], [82, 69, 65, 68], [87, 82, 73, 84, 69], [82, 69, 65, 68, 87], [87, 82, 73, 84, 69, 87], [83, 69, 69, 75], [82, 69, 71, 73, 83, 84, 69, 82], [68, 69, 76, 69, 84, 69]]

set_option maxRecDepth 20000 in
set_option maxHeartbeats 4000000 in
theorem keywords_walk (w : World) : Calls Try.prog 25 #[] w fun e w' => e = .returned (.slice (some ⟨w.heap.size, 0, none⟩) 29 29) ∧ w' = w.alloc (.cells (kwB.map nameV).toArray 9) := by
  have e : (kwB.map nameV).toArray = #[.string ⟨#[65, 82, 82, 65, 89]⟩, .string ⟨#[66, 69, 71, 73, 78]⟩, .string ⟨#[67, 79, 78, 83, 84]⟩, .string ⟨#[68, 73, 86]⟩, .string ⟨#[68, 79]⟩, .string ⟨#[69, 76, 83, 69]⟩, .string ⟨#[69, 76, 83, 73, 70]⟩, .string ⟨#[69, 78, 68]⟩, .string ⟨#[70, 65, 76, 83, 69]⟩, .string ⟨#[73, 70]⟩, .string ⟨#[73, 77, 80, 79, 82, 84]⟩, .string ⟨#[73, 78]⟩, .string ⟨#[77, 79, 68]⟩, .string ⟨#[77, 79, 68, 85, 76, 69]⟩, .string ⟨#[78, 73, 76]⟩, .string ⟨#[79, 70]⟩, .string ⟨#[79, 82]⟩, .string ⟨#[80, 79, 73, 78, 84, 69, 82]⟩, .string ⟨#[80, 82, 79, 67, 69, 68, 85, 82, 69]⟩, .string ⟨#[82, 69, 67, 79, 82, 68]⟩, .string ⟨#[82, 69, 80, 69, 65, 84]⟩, .string ⟨#[82, 69, 84, 85, 82, 78]⟩, .string ⟨#[84, 72, 69, 78]⟩, .string ⟨#[84, 79]⟩, .string ⟨#[84, 82, 85, 69]⟩, .string ⟨#[84, 89, 80, 69]⟩, .string ⟨#[85, 78, 84, 73, 76]⟩, .string ⟨#[86, 65, 82]⟩, .string ⟨#[87, 72, 73, 76, 69]⟩] := rfl
  rw [e]
  clear e
  go_enter Try.func25, Try.ntmps25
  go_wp2
  go_ret
  exact ⟨rfl, rfl⟩

set_option maxRecDepth 20000 in
set_option maxHeartbeats 4000000 in
theorem predeclared_walk (w : World) : Calls Try.prog 26 #[] w fun e w' => e = .returned (.slice (some ⟨w.heap.size, 0, none⟩) 28 28) ∧ w' = w.alloc (.cells (preB.map nameV).toArray 9) := by
  have e : (preB.map nameV).toArray = #[.string ⟨#[73, 78, 84, 69, 71, 69, 82]⟩, .string ⟨#[66, 79, 79, 76, 69, 65, 78]⟩, .string ⟨#[67, 72, 65, 82]⟩, .string ⟨#[66, 89, 84, 69]⟩, .string ⟨#[83, 69, 84]⟩, .string ⟨#[65, 66, 83]⟩, .string ⟨#[79, 68, 68]⟩, .string ⟨#[79, 82, 68]⟩, .string ⟨#[67, 72, 82]⟩, .string ⟨#[76, 83, 76]⟩, .string ⟨#[65, 83, 82]⟩, .string ⟨#[76, 69, 78]⟩, .string ⟨#[79, 76, 68]⟩, .string ⟨#[70, 82, 69, 83, 72]⟩, .string ⟨#[69, 79, 70]⟩, .string ⟨#[76, 69, 78, 71, 84, 72]⟩, .string ⟨#[73, 78, 67]⟩, .string ⟨#[68, 69, 67]⟩, .string ⟨#[78, 69, 87]⟩, .string ⟨#[65, 83, 83, 69, 82, 84]⟩, .string ⟨#[72, 65, 76, 84]⟩, .string ⟨#[82, 69, 65, 68]⟩, .string ⟨#[87, 82, 73, 84, 69]⟩, .string ⟨#[82, 69, 65, 68, 87]⟩, .string ⟨#[87, 82, 73, 84, 69, 87]⟩, .string ⟨#[83, 69, 69, 75]⟩, .string ⟨#[82, 69, 71, 73, 83, 84, 69, 82]⟩, .string ⟨#[68, 69, 76, 69, 84, 69]⟩] := rfl
  rw [e]
  clear e
  go_enter Try.func26, Try.ntmps26
  go_wp2
  go_ret
  exact ⟨rfl, rfl⟩

def EndIs (F : Nat → Prop) (w : World) (g : Nat) (s' : Sc) (a : Option Addr) (c : Nat) (m : Nat) (e : Ending) (w' : World) : Prop :=
  e = .returned (.tuple #[]) ∧ (∃ n', ScnX F w' g s' a c n' m) ∧ Ke (Off F) w w'
theorem ld0 : ldB 0 = false := rfl
theorem hex0 : hexB 0 = false := rfl
theorem str0 : strB 0 = false := rfl
theorem size_u8 (w : World) : (Go.sizeOf 5).run Try.prog w = .ok 1 w := by kernel_rfl
theorem ScnX.spot (H : ScnX F w g s a c n m) : (∀ x, a = some x → x.spot = none) ∧ (a = none → c = 0) ∧ s.src.length ≤ c := by
  obtain ⟨_, h3⟩ := H.src
  rcases h3 with ⟨h4, h5⟩ | ⟨b, cap, cur, he, _, h5, h6, h7, h8, h9⟩
  · simp only [Value.slice.injEq] at h4
    obtain ⟨rfl, h5, rfl⟩ := h4
    exact ⟨fun x hx => (by cases hx), fun _ => rfl, by omega⟩
  · simp only [Value.slice.injEq] at he
    obtain ⟨rfl, h7, rfl⟩ := he
    exact ⟨fun x hx => (by cases hx; rfl), fun h => (by cases h), h6⟩

/-- the source's bytes from i to j, as a slice and as a text. -/
theorem ScnX.cut (H : ScnX F w g s a c n m) (l : List Int) (el : s.src = l) (i j : Nat) (hij : i ≤ j) (hj : j ≤ l.length) : ∃ xb : ByteArray, nameV (byt (cut l i j)) = .string xb ∧
    (∀ W, (Instr.slice 23 (.slice a l.length c) (some (.int .i64 (i : Int))) (some (.int .i64 (j : Int))) none).run Try.prog W = .ok (.slice (cutV a c i) (j - i) (c - i)) W) ∧
    RdI .u8 w (cutV a c i) (c - i) (Go.Proofs.Ytdgiijidgjagbaa.cut l i j) ∧ (Go.Proofs.Ytdgiijidgjagbaa.cut l i j).length = j - i ∧
    ∀ W, RdI .u8 W (cutV a c i) (c - i) (Go.Proofs.Ytdgiijidgjagbaa.cut l i j) → (convert 23 9 (.slice (cutV a c i) (j - i) (c - i))).run Try.prog W = .ok (.string xb) W := by
  subst el
  obtain ⟨h1, h2, h3⟩ := H.spot
  have hr := H.rd.window i j hij hj h1
  have hl : (Go.Proofs.Ytdgiijidgjagbaa.cut s.src i j).length = j - i := hr.2
  refine ⟨⟨(byt (Go.Proofs.Ytdgiijidgjagbaa.cut s.src i j)).toArray⟩, rfl, fun W => run_cut Try.underlying23 size_u8 hij hj h3 h2 h1 W, hr.1, hl, fun W hW => ?_⟩
  have := run_str_of (P := Try.prog) (dst := 9) hW Try.underlying23 Try.underlying5 Try.underlying9
  rw [hl] at this
  exact this

set_option maxRecDepth 20000 in
set_option maxHeartbeats 8000000 in
theorem name_walk (H : ScnX F w g s a c n m) (hF : ∀ k, F k → k < w.heap.size) :
    Calls Try.prog 31 #[.pointer (some ⟨g, 0, none⟩)] w (EndIs F w g s.name a c m) := by
  have HH := Lib.hid H
  have HF := Lib.hid hF
  have c1 : w.cell? ⟨g, 1, none⟩ = some (.int .i64 s.at') := (H.at'.cell 1).trans rfl
  have HL := Lib.hid H.ok.len
  have HLE := Lib.hid H.ok.le
  have a1 : (0 : Int) ≤ s.at' := by omega
  have a2 : (s.at' : Int) ≤ 65535 := by have := H.ok.le; have := H.ok.len; omega
  clear H hF
  go_enter Try.func31, Try.ntmps31
  go_wp2
  clear c1
  go_loopg [] s.src.length (fun gk wr => ∃ k, s.at' ≤ k ∧ k ≤ s.src.length ∧ s.src.length - k ≤ gk ∧ run ldB s.src k = run ldB s.src s.at' ∧ ScnX F wr g (s.to k) a c n m ∧ Ke (· = g) w wr)
  case atStart => exact ⟨s.at', Nat.le_refl _, HLE.out, Nat.sub_le _ _, rfl, HH.out, Ke.refl _ _⟩
  case round =>
    obtain ⟨k, hk1, hk2, hgk, hr, hx, hk⟩ := hrel
    have HX := Lib.hid hx
    have HK := Lib.hid hk
    have HG := Lib.hid hgk
    have HR := Lib.hid hr
    have HK1 := Lib.hid hk1
    have HK2 := Lib.hid hk2
    obtain ⟨⟨q1, q2⟩, ⟨q3, q4⟩, q5, q6, q7⟩ := wrapAt hk2 HL.out
    obtain ⟨v, hv⟩ : ∃ v, s.src.getD k 0 = v := ⟨_, rfl⟩
    have HV := Lib.hid hv
    by_cases hld : ldB v = true
    · have hy := run_yes ld0 (by rw [hv]; exact hld)
      have HY := Lib.hid hy
      have hor : letterB v = true ∨ letterB v = false ∧ digitB v = true := by
        unfold ldB at hld
        cases h1 : letterB v
        · rw [h1] at hld; exact .inr ⟨rfl, hld⟩
        · exact .inl rfl
      clear hx hk hgk hr hk1 hk2 hv hld hy q1 q2 q3 q4
      rcases hor with hl | ⟨hl, hd⟩
      · have f1 : True := trivial
        go_wp2_with (first | (have _f := f1; refine (ch_is HX.out v HV.out).mono ?_; rintro e w1 ⟨rfl, hb⟩; have hx1 := HX.out.bel hb; have HX1 := Lib.hid hx1; have HK1' := Lib.hid (ke_bel HK.out hb); have c1 : w1.cell? ⟨g, 1, none⟩ = some (.int .i64 k) := (hx1.at'.cell 1).trans rfl; clear hb hx1 _f f1) | (refine (letter_is v _ hl _).mono ?_; rintro e w' ⟨rfl, rfl⟩) | (refine scn_store1 rfl 3 (.tmp 22) (.tmp 20) rfl HX1.out (s.to (k + 1)) rfl rfl rfl (by kernel_rfl) rfl rfl rfl rfl HY.out.2 ?_; intro w2 h2 k2 z2; have HX2 := Lib.hid h2; have HK2' := Lib.hid (HK1'.out.trans k2); clear h2 k2 z2))
        go_frame
        go_roundg (gk - 1)
        case measure => have := HG.out; have := HY.out.2; omega
        case rel => exact ⟨k + 1, by have := HK1.out; omega, HY.out.2, by have := HG.out; omega, HY.out.1.symm.trans HR.out, HX2.out, HK2'.out⟩
      · have f1 : True := trivial
        have f2 : True := trivial
        go_wp2_with (first | (have _f := f1; refine (ch_is HX.out v HV.out).mono ?_; rintro e w1 ⟨rfl, hb⟩; have HX1 := Lib.hid (HX.out.bel hb); have HK1' := Lib.hid (ke_bel HK.out hb); clear hb _f f1) | (refine (letter_is v _ hl _).mono ?_; rintro e w' ⟨rfl, rfl⟩) | (have _f := f2; refine (ch_is HX1.out v HV.out).mono ?_; rintro e w2 ⟨rfl, hb⟩; have hx2 := HX1.out.bel hb; have HX2 := Lib.hid hx2; have HK2' := Lib.hid (ke_bel HK1'.out hb); have c1 : w2.cell? ⟨g, 1, none⟩ = some (.int .i64 k) := (hx2.at'.cell 1).trans rfl; clear hb hx2 _f f2) | (refine (digit_is v _ hd _).mono ?_; rintro e w' ⟨rfl, rfl⟩) | (refine scn_store1 rfl 3 (.tmp 22) (.tmp 20) rfl HX2.out (s.to (k + 1)) rfl rfl rfl (by kernel_rfl) rfl rfl rfl rfl HY.out.2 ?_; intro w3 h2 k2 z2; have HX3 := Lib.hid h2; have HK3' := Lib.hid (HK2'.out.trans k2); clear h2 k2 z2))
        go_frame
        go_roundg (gk - 1)
        case measure => have := HG.out; have := HY.out.2; omega
        case rel => exact ⟨k + 1, by have := HK1.out; omega, HY.out.2, by have := HG.out; omega, HY.out.1.symm.trans HR.out, HX3.out, HK3'.out⟩
    · have hld' : ldB v = false := by simpa using hld
      have hl : letterB v = false ∧ digitB v = false := by unfold ldB at hld'; simpa using hld'
      obtain ⟨hl, hd⟩ := hl
      have hK : run ldB s.src s.at' = k := by rw [← hr]; exact run_no (by rw [hv]; exact hld')
      have HKK := Lib.hid hK
      have p1 : (s.at' : Int) ≤ k := by omega
      have hz0 : (0 : Int) ≤ (k : Int) - s.at' := by omega
      have f1 : True := trivial
      have f2 : True := trivial
      by_cases h15 : 15 < k - s.at'
      · have j15 : (15 : Int) < (k : Int) - s.at' := by omega
        have hn : s.name = (s.to k).mark 3 := by
          unfold Sc.name
          simp only [hK]
          rw [if_pos h15]; rfl
        have HN := Lib.hid hn
        clear hx hk hgk hr hk1 hk2 hv hld hld' hK hn q1 q2 q3 q4 h15
        go_wp2_with (first | (have _f := f1; refine (ch_is HX.out v HV.out).mono ?_; rintro e w1 ⟨rfl, hb⟩; have HX1 := Lib.hid (HX.out.bel hb); have HK1' := Lib.hid (ke_bel HK.out hb); clear hb _f f1) | (refine (letter_is v _ hl _).mono ?_; rintro e w' ⟨rfl, rfl⟩) | (have _f := f2; refine (ch_is HX1.out v HV.out).mono ?_; rintro e w2 ⟨rfl, hb⟩; have hx2 := HX1.out.bel hb; have HX2 := Lib.hid hx2; have HK2' := Lib.hid (ke_bel HK1'.out hb); have c1 : w2.cell? ⟨g, 1, none⟩ = some (.int .i64 k) := (hx2.at'.cell 1).trans rfl; clear hb hx2 _f f2) | (refine (digit_is v _ hd _).mono ?_; rintro e w' ⟨rfl, rfl⟩) | (refine (mark_walk HX2.out 3).mono ?_; rintro e w3 ⟨rfl, h1, h2, h3⟩; have HX3 := Lib.hid h1; have HK3' := Lib.hid (HK2'.out.trans h2); clear h1 h2 h3))
        go_end0
        exact ⟨rfl, ⟨n, by rw [HN.out]; exact HX3.out⟩, HH.out.off HK3'.out⟩
      · have j15 : (k : Int) - s.at' ≤ 15 := by omega
        obtain ⟨xb, hxb, hsl, hrx, hlx, hcv⟩ := hx.cut s.src rfl s.at' k hk1 hk2
        have HXB := Lib.hid hxb
        have HCV := Lib.hid hcv
        have HRX := Lib.hid hrx
        obtain ⟨i, s2, hi⟩ : ∃ i s2, (s.to k).intern (byt (cut s.src s.at' k)) = (i, s2) := ⟨_, _, rfl⟩
        have HI := Lib.hid hi
        have HLX := Lib.hid (show (byt (cut s.src s.at' k)).length ≤ 100000 by unfold byt; rw [List.length_map]; have : (cut s.src s.at' k).length = k - s.at' := hlx; omega)
        have hn : s.name = if i < 0 then s2 else if i < 29 then { s2 with sym := ⟨30 + i, s.at', 0, 0, []⟩ } else { s2 with sym := { s2.sym with sym := 25, id := i } } := by
          unfold Sc.name
          simp only [hK]
          rw [if_neg h15]
          have : ({ s with at' := k } : Sc).intern (byt (cut s.src s.at' k)) = (i, s2) := hi
          simp only [this]
        have HN := Lib.hid hn
        clear hx hk hgk hr hk1 hk2 hv hld hld' hK hn q1 q2 q3 q4 h15 hxb hcv hrx hlx hi
        go_wp2_with (first | (have _f := f1; refine (ch_is HX.out v HV.out).mono ?_; rintro e w1 ⟨rfl, hb⟩; have HX1 := Lib.hid (HX.out.bel hb); have HB1 := Lib.hid hb; clear hb _f f1) | (refine (letter_is v _ hl _).mono ?_; rintro e w' ⟨rfl, rfl⟩) | (have _f := f2; refine (ch_is HX1.out v HV.out).mono ?_; rintro e w2 ⟨rfl, hb⟩; have hx2 := HX1.out.bel hb; have HX2 := Lib.hid hx2; have HB2 := Lib.hid (bel_then HB1.out hb); have c1 : w2.cell? ⟨g, 1, none⟩ = some (.int .i64 k) := (hx2.at'.cell 1).trans rfl; clear hb hx2 _f f2) | (refine (digit_is v _ hd _).mono ?_; rintro e w' ⟨rfl, rfl⟩))
        refine wp_region_do [0, 1, 2, 3, 4, 5, 6, 7, 8, 9, 10, 11] 12 [11, 10, 9, 8, 7, 6, 5, 4, 3, 2, 1, 0] [13] (by kernel_rfl) (by kernel_rfl) (fun _ _ d _ _ h => by cases d <;> exact h) ?_
        intro u0 hb0
        have hx3 := HX2.out.bel hb0
        have HX3 := Lib.hid hx3
        have HB3 := Lib.hid (bel_then HB2.out hb0)
        have l0 := hx3.at'.laterCellB 0 (v := .slice a s.src.length c) rfl
        have l1 := hx3.at'.laterCellB 1 (v := .int .i64 k) rfl
        have hr3 := HRX.out.below HB3.out (Nat.le_refl _)
        have hcv3 := fun x : Later (Below u0.heap.size u0) => HCV.out x.w (hr3.below x.ok (Nat.le_refl _))
        clear hb0 hx3 hr3 c1
        refine do_intro ?_
        simp only [pickOps, nth]
        (repeat (go_big_quiet_step (fail)))
        refine wpQuiet_nil ?_
        clear l0 l1 hcv3 hsl
        go_wp2_with fail
        refine (intern_is HX3.out _ HLX.out (fun j hj => Nat.lt_of_lt_of_le (HF.out j hj) (Nat.le_trans HK.out.size HB3.out.size)) i s2 HI.out xb HXB.out).mono ?_
        rintro e w3 ⟨rfl, ⟨n', hx4⟩, hk4⟩
        have HX4 := Lib.hid hx4
        have HK4 : Hid (Ke (Off F) w w3) := Lib.hid ((HH.out.off (ke_bel HK.out HB3.out)).trans hk4)
        clear hx4 hk4
        go_wp2_with fail
        haveI : Nonempty World := ⟨w⟩
        (repeat (go_big_quiet_step (fail)))
        refine wpQuiet_nil ?_
        by_cases hi0 : i < 0
        · have HE := Lib.hid (HN.out.trans (if_pos hi0))
          go_wp2_with fail
          go_end0
          exact ⟨rfl, ⟨n', by rw [HE.out]; exact HX4.out⟩, HK4.out⟩
        · have hi1 : 0 ≤ i := by omega
          have HN2 := Lib.hid (HN.out.trans (if_neg hi0))
          by_cases h29 : i < 29
          · have HE := Lib.hid (HN2.out.trans (if_pos h29))
            have f1 : True := trivial
            have f2 : True := trivial
            have f3 : True := trivial
            go_wp2_with (first | (have _f := f1; refine scn_store1 rfl 3 (.tmp 52) (.const (.int .i64 25)) rfl HX4.out { s2 with sym := { s2.sym with sym := 25 } } rfl rfl rfl (by kernel_rfl) rfl rfl rfl rfl HX4.out.ok.le ?_; intro w5 h5 k5 z5; have HX5 := Lib.hid h5; have HK5 := Lib.hid (HK4.out.trans (HX4.out.off k5)); clear h5 k5 z5 _f f1) | (have _f := f2; refine scn_store1 rfl 3 (.tmp 55) (.tmp 49) rfl HX5.out { s2 with sym := { s2.sym with sym := 25, id := i } } rfl rfl rfl (by kernel_rfl) rfl rfl rfl rfl HX4.out.ok.le ?_; intro w6 h5 k5 z5; have HX6 := Lib.hid h5; have HK6 := Lib.hid (HK5.out.trans (HX5.out.off k5)); clear h5 k5 z5 _f f2) | (refine (keywords_walk _).mono ?_; rintro e w7 ⟨rfl, hw7⟩; have HB7 := Lib.hid (show Below w6.heap.size w6 w7 by rw [hw7]; exact bel1 _ _); clear hw7) | (have _f := f3; refine scn_store5 rfl 30 (.tmp 66) (.tmp 64) rfl (HX6.out.bel HB7.out) { s2 with sym := ⟨30 + i, s.at', 0, 0, []⟩ } (vs := [.int .i64 (30 + i), .int .i64 s.at', .int .i32 0, .int .i64 0, .string ⟨#[]⟩]) rfl rfl rfl (by kernel_rfl) (by simp [Value.oneCell']) rfl rfl rfl HX4.out.ok.le ?_; intro w8 h5 k5 z5; have HX8 := Lib.hid h5; have HK8 := Lib.hid ((HK6.out.trans (Ke.below _ HB7.out)).trans ((HX6.out.bel HB7.out).off k5)); clear h5 k5 z5 _f f3))
            go_end0
            exact ⟨rfl, ⟨n', by rw [HE.out]; exact HX8.out⟩, HK8.out⟩
          · have HE := Lib.hid (HN2.out.trans (if_neg h29))
            have f1 : True := trivial
            have f2 : True := trivial
            go_wp2_with (first | (have _f := f1; refine scn_store1 rfl 3 (.tmp 52) (.const (.int .i64 25)) rfl HX4.out { s2 with sym := { s2.sym with sym := 25 } } rfl rfl rfl (by kernel_rfl) rfl rfl rfl rfl HX4.out.ok.le ?_; intro w5 h5 k5 z5; have HX5 := Lib.hid h5; have HK5 := Lib.hid (HK4.out.trans (HX4.out.off k5)); clear h5 k5 z5 _f f1) | (have _f := f2; refine scn_store1 rfl 3 (.tmp 55) (.tmp 49) rfl HX5.out { s2 with sym := { s2.sym with sym := 25, id := i } } rfl rfl rfl (by kernel_rfl) rfl rfl rfl rfl HX4.out.ok.le ?_; intro w6 h5 k5 z5; have HX6 := Lib.hid h5; have HK6 := Lib.hid (HK5.out.trans (HX5.out.off k5)); clear h5 k5 z5 _f f2) | (refine (keywords_walk _).mono ?_; rintro e w7 ⟨rfl, hw7⟩; have HB7 := Lib.hid (show Below w6.heap.size w6 w7 by rw [hw7]; exact bel1 _ _); clear hw7))
            go_end0
            exact ⟨rfl, ⟨n', by rw [HE.out]; exact HX6.out.bel HB7.out⟩, HK6.out.trans (Ke.below _ HB7.out)⟩

end Go.Proofs.Ytdgiijidgjagbaa
