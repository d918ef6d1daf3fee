/- Contract: the law's known. -/
import Derived.Test.YtdgiijidgjagbaaScanNew
namespace Go.Proofs.Ytdgiijidgjagbaa
set_option linter.unusedVariables false
set_option linter.unusedSimpArgs false
open Go.RowKit

def gets (s : Sc) : Nat → Sc
  | 0 => s
  | n + 1 => (gets s n).get
def knS : List Int := [120, 58, 61, 48, 70, 70, 72, 59]
def knW : List Int := [25, 24, 26, 22, 0]
def knB : Bool := (List.range 5).all fun j => let x := (gets (newS knS) j).sym; x.sym == knW.getD j 0 && (x.sym != 26 || x.val == 255)
theorem kn_all : knB = true := by kernel_rfl
theorem kn_at (j : Nat) (hj : j < 5) : (gets (newS knS) j).sym.sym = knW.getD j 0 ∧ ((gets (newS knS) j).sym.sym = 26 → (gets (newS knS) j).sym.val = 255) := by
  have h := List.all_eq_true.1 kn_all j (List.mem_range.2 hj)
  simp only [Bool.and_eq_true, beq_iff_eq, Bool.or_eq_true, bne_iff_ne] at h
  exact ⟨h.1, fun e => h.2.resolve_left (fun n => n e)⟩

variable {F : Nat → Prop} {w w' : World} {g : Nat} {s : Sc} {a : Option Addr} {c : Nat} {n : Value} {m : Nat}

theorem symbol_is (H : Scn F w g s) (x : Sym) (hx : s.sym = x) :
    Calls Try.prog 13 #[.pointer (some ⟨g, 0, none⟩)] w fun e w' => e = .returned (.agg #[.int .i64 x.sym, .int .i64 x.pos, .int .i32 x.val, .int .i64 x.id, .string ⟨x.text.toArray⟩]) ∧ Below w.heap.size w w' := by
  subst hx
  obtain ⟨a, c, n, m, h⟩ := H
  exact symbol_walk h
theorem get_is (H : Scn F w g s) (hF : ∀ k, F k → k < w.heap.size) :
    Calls Try.prog 14 #[.pointer (some ⟨g, 0, none⟩)] w fun e w' => e = .returned (.tuple #[]) ∧ Scn F w' g s.get ∧ Ke (Off F) w w' := by
  obtain ⟨a, c, n, m, h⟩ := H
  exact (get_walk h hF).mono fun e w' ⟨h1, ⟨n', h2⟩, h3⟩ => ⟨h1, ⟨a, c, n', m, h2⟩, h3⟩
theorem Scn.bel (H : Scn F w g s) (k : Below w.heap.size w w') : Scn F w' g s := by
  obtain ⟨a, c, n, m, h⟩ := H
  exact ⟨a, c, n, m, h.bel k⟩
theorem Scn.more (H : Scn F w g s) (k : Below w.heap.size w w') : Scn (fun i => F i ∨ (w.heap.size ≤ i ∧ i < w'.heap.size)) w' g s := by
  obtain ⟨a, c, n, m, h⟩ := H
  exact ⟨a, c, n, m, h.more k⟩
theorem Scn.weak {F F' : Nat → Prop} (H : Scn F' w g s) (hs : ∀ k, F k → F' k) : Scn F w g s := by
  obtain ⟨a, c, n, m, h⟩ := H
  exact ⟨a, c, n, m, h.weak hs⟩
theorem off_below {w w' : World} {F : Nat → Prop} {B : Nat} (k : Ke (Off F) w w') (hF : ∀ i, i < B → F i) : Ke (fun i => B ≤ i) w w' := k.mono (fun i _ h => Nat.le_of_not_lt (fun hi => h (hF i hi)))

abbrev knV : Array Value := #[.int .i64 25, .int .i64 24, .int .i64 26, .int .i64 22, .int .i64 0]
theorem knV_at : ∀ j, j < 5 → knV[j]? = some (.int .i64 (knW.getD j 0)) := by
  intro j hj
  rcases (by omega : j = 0 ∨ j = 1 ∨ j = 2 ∨ j = 3 ∨ j = 4) with rfl | rfl | rfl | rfl | rfl <;> rfl

theorem kn_rd {w : World} {q : Nat} {fr : Nat × Nat} (h : w.heap[q]? = some (.cells #[.int .u8 120, .int .u8 58, .int .u8 61, .int .u8 48, .int .u8 70, .int .u8 70, .int .u8 72, .int .u8 59] 5 fr)) : RdI .u8 w (some ⟨q, 0, none⟩) 8 knS := by
  refine ⟨⟨⟨q, 0, fun _ => ⟨rfl, (Array.getElem?_eq_some_iff.1 h).1⟩, fun j u hj => ?_⟩, fun h => (by cases h), Nat.le_refl _, by unfold maxLen; omega⟩, fun x hx => ?_⟩
  · rw [Nat.zero_add, cell_of_row w q j _ _ _ h]
    rw [← hj]
    rcases Nat.lt_or_ge j 8 with hj8 | hj8
    · rcases (by omega : j = 0 ∨ j = 1 ∨ j = 2 ∨ j = 3 ∨ j = 4 ∨ j = 5 ∨ j = 6 ∨ j = 7) with rfl | rfl | rfl | rfl | rfl | rfl | rfl | rfl <;> rfl
    · rw [Array.getElem?_eq_none (by simpa using hj8), List.getElem?_eq_none (by simpa [knS] using hj8)]
  · refine bd_u8' ?_
    simp [knS] at hx
    omega

set_option maxRecDepth 20000 in
set_option maxHeartbeats 8000000 in
theorem known_walk (w : World) : Calls Try.prog 10 #[] w fun e w' => e = .returned (.bool true) ∧ Below w.heap.size w w' := by
  have kc := fun (w : World) (C : Array Value) (n c : Nat) => Lib.run_convert_bytes_const (P := Try.prog) w 23 5 C n c Try.underlying23 Try.underlying5
  go_enter Try.func10, Try.ntmps10
  go_wp2_with (refine (new_walk (src := knS) (kn_rd (heap_alloc_new w _)) (by decide)).mono ?_; rintro e w1 ⟨g, rfl, hs, hb⟩; have HS1 := Lib.hid hs; have HB1 := Lib.hid (bel_then (bel1 w _) hb); clear hs hb)
  have HS2 := Lib.hid (HS1.out.more (bel1 w1 (.cells knV 3)))
  have HA2 := Lib.hid (At.new w1 knV 3)
  have HB2 := Lib.hid (bel_then HB1.out (bel1 w1 (.cells knV 3)))
  clear kc
  have HS3 : Hid (Scn (fun i => i < w.heap.size ∨ i = w1.heap.size) (w1.alloc (.cells knV 3)) g (newS knS)) := Lib.hid (HS2.out.weak (fun i hi => by
    rcases hi with hi | hi
    · left; simp; omega
    · right; subst hi; simp))
  go_loopg [3] 5 (fun gk idx wr => ∃ j : Nat, j ≤ 5 ∧ 5 - j ≤ gk ∧ idx = .int .i64 j ∧ Scn (fun i => i < w.heap.size ∨ i = w1.heap.size) wr g (gets (newS knS) j) ∧ At wr w1.heap.size knV 3 ∧ Below w.heap.size w wr)
  case atStart => exact ⟨0, Nat.zero_le _, Nat.le_refl _, rfl, HS3.out, HA2.out, HB2.out⟩
  case round =>
    obtain ⟨j, hj, hgk, rfl, hs, ha, hb⟩ := hrel
    have HS := Lib.hid hs
    have HA := Lib.hid ha
    have HB := Lib.hid hb
    have HG := Lib.hid hgk
    have j1 : (0 : Int) ≤ j := by omega
    by_cases hjl : j < 5
    · have j3 : (j : Int) < 5 := by omega
      obtain ⟨x, hx⟩ : ∃ x, (gets (newS knS) j).sym = x := ⟨_, rfl⟩
      have hk := kn_at j hjl
      rw [hx] at hk
      have hqa := knV_at j hjl
      rw [← hk.1] at hqa
      obtain ⟨v, p, u, i, t⟩ := x
      simp only at hk hqa
      have HX := Lib.hid hx
      have HK := Lib.hid hk.2
      have HQA := Lib.hid hqa
      have HSE := Lib.hid (Sep.one ha)
      obtain ⟨tb, htb⟩ : ∃ tb : ByteArray, (⟨t.toArray⟩ : ByteArray) = tb := ⟨_, rfl⟩
      have HY := symbol_is hs _ hx
      simp only at HY
      rw [htb] at HY
      have HYY := Lib.hid HY
      clear hs ha hb hgk hx hk hqa hj HY htb
      have f1 : True := trivial
      have f2 : True := trivial
      have f3 : True := trivial
      go_wp2_with (first | (have _f := f1; refine HYY.out.mono ?_; rintro e w3 ⟨rfl, hb⟩; have HB3 := Lib.hid hb; have HS3' := Lib.hid (HSE.out.bel hb); clear hb _f f1) | (have _f := f2; refine alloc_sep rfl 30 rfl HS3'.out (z := .agg #[.int .i64 0, .int .i64 0, .int .i32 0, .int .i64 0, .string ⟨#[]⟩]) (cs := #[.int .i64 0, .int .i64 0, .int .i32 0, .int .i64 0, .string ⟨#[]⟩]) (by kernel_rfl) rfl ?_; intro w4 S4 b4 s4; have HS4 := Lib.hid S4; have HB4 := Lib.hid b4; clear S4 b4 s4 _f f2) | (have _f := f3; refine store_sep rfl 30 (.tmp 4) (.tmp 16) rfl HS4.out 0 rfl rfl rfl rfl (by kernel_rfl) rfl ?_; intro w5 S5 k5 s5; have HS5 := Lib.hid S5; have HK5 := Lib.hid k5; clear S5 k5 s5 _f f3))
      have HBB : Hid (Below wr.heap.size wr w5) := Lib.hid (bel_then HB3.out (((Ke.below (· = w3.heap.size) HB4.out).trans HK5.out).toBelow (fun i hi e => absurd e (Nat.ne_of_lt hi))))
      have c0 : w5.cell? ⟨w3.heap.size, 0, none⟩ = some (.int .i64 v) := ((HS5.out.at 0 rfl).cell 0).trans rfl
      have c2 : w5.cell? ⟨w3.heap.size, 2, none⟩ = some (.int .i32 u) := ((HS5.out.at 0 rfl).cell 2).trans rfl
      have cq : w5.cell? ⟨w1.heap.size, j, none⟩ = some (.int .i64 v) := ((HS5.out.at 1 rfl).cell j).trans HQA.out
      have f4 : True := trivial
      have HFF := Lib.hid (fun nq => (fun k hk => by
        have h1 := HB.out.size
        have h2 := HBB.out.size
        have h3 := (belN w5 nq).size
        rcases hk with hk | hk
        · omega
        · have := HA.out.lt; omega : ∀ k, (k < w.heap.size ∨ k = w1.heap.size) → k < (w5.drewN nq).heap.size))
      by_cases h26 : v = 26
      · subst h26
        have hu : u = 255 := HK.out rfl
        subst hu
        go_quiet (fail)
        go_wp2_with (have _f := f4; refine (get_is (HS.out.bel (bel_then HBB.out (belN _ _))) (HFF.out _)).mono ?_; rintro e w6 ⟨rfl, h6, k6⟩; have HS6 := Lib.hid h6; have HK6 := Lib.hid (show Ke (Off (fun i => i < w.heap.size ∨ i = w1.heap.size)) w5 w6 from (Ke.below _ (belN w5 _)).trans k6); clear h6 k6 _f f4)
        have KK := (Ke.below (Off (fun i => i < w.heap.size ∨ i = w1.heap.size)) HBB.out).trans HK6.out
        have HA6 := Lib.hid (HA.out.ke KK (fun h => h (.inr rfl)))
        have HB6 := Lib.hid (((Ke.below (fun i => w.heap.size ≤ i) HB.out).trans (KK.mono (fun i _ h => Nat.le_of_not_lt (fun hi => h (.inl hi))))).toBelow (fun i hi e => absurd e (Nat.not_le_of_lt hi)))
        clear KK c0 c2 cq
        go_wp2
        go_roundg (gk - 1)
        case measure => have := HG.out; omega
        case rel => exact ⟨j + 1, hjl, by have := HG.out; omega, by go_num, HS6.out, HA6.out, HB6.out⟩
      · have g26 : (v == 26) = false := by simpa using h26
        go_quiet (fail)
        go_wp2_with (have _f := f4; refine (get_is (HS.out.bel (bel_then HBB.out (belN _ _))) (HFF.out _)).mono ?_; rintro e w6 ⟨rfl, h6, k6⟩; have HS6 := Lib.hid h6; have HK6 := Lib.hid (show Ke (Off (fun i => i < w.heap.size ∨ i = w1.heap.size)) w5 w6 from (Ke.below _ (belN w5 _)).trans k6); clear h6 k6 _f f4)
        have KK := (Ke.below (Off (fun i => i < w.heap.size ∨ i = w1.heap.size)) HBB.out).trans HK6.out
        have HA6 := Lib.hid (HA.out.ke KK (fun h => h (.inr rfl)))
        have HB6 := Lib.hid (((Ke.below (fun i => w.heap.size ≤ i) HB.out).trans (KK.mono (fun i _ h => Nat.le_of_not_lt (fun hi => h (.inl hi))))).toBelow (fun i hi e => absurd e (Nat.not_le_of_lt hi)))
        clear KK c0 c2 cq
        go_wp2
        go_roundg (gk - 1)
        case measure => have := HG.out; omega
        case rel => exact ⟨j + 1, hjl, by have := HG.out; omega, by go_num, HS6.out, HA6.out, HB6.out⟩
    · have hj5 : j = 5 := by omega
      subst hj5
      clear hs ha hb hgk hj
      go_wp2
      go_ret
      exact ⟨rfl, HB.out⟩

end Go.Proofs.Ytdgiijidgjagbaa
