/- Contracts: the reader's methods byte, word, small. -/
import Derived.Test.YteagpjcflcahoaaObjRdr
import Derived.LoopN
namespace Go.Proofs.Yteagpjcflcahoaa
set_option linter.unusedVariables false
set_option linter.unusedSimpArgs false
open Go.RowKit
variable {w0 wr wz : World} {g : Nat} {s : St}

theorem some_bad (h : Rdr w0 wr g s) (n : Nat) (hn : n ≤ 1000000) (hs : (rSome n s).2 = none) :
    Calls Try.prog 25 #[.pointer (some ⟨g, 0, none⟩), .int .i64 n] wr fun e w' => e = .returned (.slice none 0 0) ∧ Rdr w0 w' g none ∧ Ke (· = g) wr w' := by
  refine (some_walk h n hn).mono fun e w' ⟨a, c, e1, e2, e3, e4, e5, e6⟩ => ?_
  obtain ⟨rfl, rfl⟩ := e4 hs
  have hl := (e2.row.nil rfl).1
  rw [hl] at e1
  rw [hs] at e5
  exact ⟨e1, e5, e6⟩
theorem some_good (h : Rdr w0 wr g s) (n : Nat) (hn : n ≤ 1000000) (h1 : 1 ≤ n) {l r : List Int} (hs : rSome n s = (l, some r)) :
    Calls Try.prog 25 #[.pointer (some ⟨g, 0, none⟩), .int .i64 n] wr fun e w' => ∃ b o c, e = .returned (.slice (some ⟨b, o, none⟩) n c) ∧ (∀ i, i < n → w'.cell? ⟨b, o + i, none⟩ = some (.int .u8 (l.getD i 0))) ∧ Rdr w0 w' g (some r) ∧ Ke (· = g) wr w' := by
  have hlen : l.length = n := by
    cases s with
    | none => cases hs
    | some b => exact (rSome_sound hs).2
  refine (some_walk h n hn).mono fun e w' ⟨a, c, e1, e2, e3, e4, e5, e6⟩ => ?_
  rw [hs] at e1 e2 e3 e5
  obtain ⟨b, o, rfl⟩ := e3 h1 (by simp)
  dsimp only at e1 e2
  rw [hlen] at e1
  have hk := e2.below e5.bel (Nat.le_refl _)
  obtain ⟨b', o', h2, h3⟩ := hk.cells
  have h4 := (h2 (by omega)).1
  simp only [Option.some.injEq, Addr.mk.injEq, and_true] at h4
  obtain ⟨rfl, rfl⟩ := h4
  exact ⟨b, o, c, e1, fun i hi => h3 i (by omega), e5, e6⟩

/-- the bytes of what is left are bytes. -/
theorem Rdr.bytes (h : Rdr w0 wr g s) {l : List Int} (hs : s = some l) : ∀ x ∈ l, 0 ≤ x ∧ x < 256 := by
  subst hs
  obtain ⟨B, bad, _, _, a, c, _, hr, _⟩ := h.box
  exact fun x hx => bd_u8 (hr.bd x hx)
theorem rSome_bytes (h : Rdr w0 wr g s) (n i : Nat) : 0 ≤ (rSome n s).1.getD i 0 ∧ (rSome n s).1.getD i 0 < 256 := by
  cases s with
  | none => exact ⟨Int.le_refl _, by show (0 : Int) < 256; decide⟩
  | some l =>
    unfold rSome
    simp only
    split
    · exact ⟨Int.le_refl _, by show (0 : Int) < 256; decide⟩
    · have := h.bytes rfl
      rw [List.getD_eq_getElem?_getD]
      cases e : (l.take n)[i]? with
      | none => exact ⟨Int.le_refl _, by show (0 : Int) < 256; decide⟩
      | some x => exact this x (List.mem_of_mem_take (List.mem_of_getElem? e))
theorem rByte_bd (h : Rdr w0 wr g s) : 0 ≤ (rByte s).1 ∧ (rByte s).1 < 256 := rSome_bytes h 1 0
theorem rWord_bd (h : Rdr w0 wr g s) : 0 ≤ (rWord s).1 ∧ (rWord s).1 < 4294967296 := by
  have h0 := rSome_bytes h 4 0
  have h1 := rSome_bytes h 4 1
  have h2 := rSome_bytes h 4 2
  have h3 := rSome_bytes h 4 3
  show 0 ≤ word4 _ ∧ word4 _ < _
  unfold word4
  omega

theorem or4 {x0 x1 x2 x3 : Int} (h0 : 0 ≤ x0 ∧ x0 < 256) (h1 : 0 ≤ x1 ∧ x1 < 256) (h2 : 0 ≤ x2 ∧ x2 < 256) (h3 : 0 ≤ x3 ∧ x3 < 256) :
    bits .or .u32 (bits .or .u32 (bits .or .u32 (bits .or .u32 0 x0) (x1 * 256)) (x2 * 65536)) (x3 * 16777216) = x0 + 256 * x1 + 65536 * x2 + 16777216 * x3 := by
  have hq : ∀ (a b : Nat), a < 4294967296 → b < 4294967296 → bits .or .u32 (a : Int) (b : Int) = ((a ||| b : Nat) : Int) := fun a b ha hb => u32_or_nat a b ha hb
  obtain ⟨a, rfl⟩ := Int.eq_ofNat_of_zero_le h0.1
  obtain ⟨b, rfl⟩ := Int.eq_ofNat_of_zero_le h1.1
  obtain ⟨c, rfl⟩ := Int.eq_ofNat_of_zero_le h2.1
  obtain ⟨d, rfl⟩ := Int.eq_ofNat_of_zero_le h3.1
  rw [show (0 : Int) = ((0 : Nat) : Int) from rfl, hq 0 a (by omega) (by omega), Nat.zero_or,
    show ((b : Int) * 256) = ((b * 256 : Nat) : Int) from by omega, hq a (b * 256) (by omega) (by omega), Nat.or_comm, nat_join 8 (b * 256) a (by omega) (by omega),
    show ((c : Int) * 65536) = ((c * 65536 : Nat) : Int) from by omega, hq (b * 256 + a) (c * 65536) (by omega) (by omega), Nat.or_comm, nat_join 16 (c * 65536) (b * 256 + a) (by omega) (by omega),
    show ((d : Int) * 16777216) = ((d * 16777216 : Nat) : Int) from by omega, hq (c * 65536 + (b * 256 + a)) (d * 16777216) (by omega) (by omega), Nat.or_comm, nat_join 24 (d * 16777216) (c * 65536 + (b * 256 + a)) (by omega) (by omega)]
  omega

set_option maxHeartbeats 2000000 in
theorem byte_walk (h : Rdr w0 wr g s) :
    Calls Try.prog 30 #[.pointer (some ⟨g, 0, none⟩)] wr fun e w' => e = .returned (.int .i64 (rByte s).1) ∧ Rdr w0 w' g (rByte s).2 ∧ Ke (· = g) wr w' := by
  have HB := Lib.hid (rByte_bd h)
  cases e : (rSome 1 s).2 with
  | none =>
    have HS := Lib.hid (some_bad h 1 (by decide) e)
    have e1 : (rSome 1 s).1 = [] := by
      cases s with
      | none => rfl
      | some l =>
        unfold rSome at e ⊢
        simp only at e ⊢
        split
        · rfl
        · rename_i hh; rw [if_neg hh] at e; cases e
    have HX : Hid ((rByte s).1 = 0 ∧ (rByte s).2 = none) := Lib.hid ⟨by unfold rByte; rw [e1]; rfl, e⟩
    clear h e e1
    have f1 : True := trivial
    go_enter Try.func30, Try.ntmps30
    go_wp2_with (first | (have _f := f1; refine HS.out.mono ?_; rintro e w' ⟨rfl, r1, k1⟩; have HR := Lib.hid r1; have HK := Lib.hid k1; clear r1 k1 _f f1 HS))
    go_ret
    rw [HX.out.1, HX.out.2]
    exact ⟨rfl, HR.out, HK.out⟩
  | some r =>
    have HS := Lib.hid (some_good h 1 (by decide) (Nat.le_refl _) (l := (rSome 1 s).1) (r := r) (by rw [← e]))
    have HX : Hid ((rByte s).2 = some r) := Lib.hid e
    obtain ⟨x, hx⟩ : ∃ x, x = (rByte s).1 := ⟨_, rfl⟩
    rw [← hx] at HB ⊢
    have hb1 := HB.out.1
    have hb2 := HB.out.2
    have HE : Hid ((rSome 1 s).1.getD 0 0 = x) := Lib.hid hx.symm
    clear h e hx
    have f1 : True := trivial
    go_enter Try.func30, Try.ntmps30
    go_wp2_with (first | (have _f := f1; refine HS.out.mono ?_; rintro e w' ⟨b, o, c, rfl, c1, r1, k1⟩; have c0 : w'.cell? ⟨b, o, none⟩ = some (.int .u8 x) := (by rw [← HE.out]; exact c1 0 (by decide)); have HR := Lib.hid r1; have HK := Lib.hid k1; clear c1 r1 k1 _f f1 HS))
    go_ret
    rw [HX.out]
    exact ⟨rfl, HR.out, HK.out⟩

set_option maxHeartbeats 2000000 in
theorem small_walk (h : Rdr w0 wr g s) :
    Calls Try.prog 29 #[.pointer (some ⟨g, 0, none⟩)] wr fun e w' => e = .returned (.int .u32 (rByte s).1) ∧ Rdr w0 w' g (rByte s).2 ∧ Ke (· = g) wr w' := by
  have HS := Lib.hid (byte_walk h)
  obtain ⟨x, hx⟩ : ∃ x, x = (rByte s).1 := ⟨_, rfl⟩
  have hb := rByte_bd h
  rw [← hx] at HS hb ⊢
  have hb1 := hb.1
  have hb2 := hb.2
  clear h hb hx
  have f1 : True := trivial
  go_enter Try.func29, Try.ntmps29
  go_wp2_with (first | (have _f := f1; refine HS.out.mono ?_; rintro e w' ⟨rfl, r1, k1⟩; have HR := Lib.hid r1; have HK := Lib.hid k1; clear r1 k1 _f f1 HS))
  go_ret
  exact ⟨rfl, HR.out, HK.out⟩

set_option maxHeartbeats 2000000 in
theorem word_walk (h : Rdr w0 wr g s) :
    Calls Try.prog 27 #[.pointer (some ⟨g, 0, none⟩)] wr fun e w' => e = .returned (.int .u32 (rWord s).1) ∧ Rdr w0 w' g (rWord s).2 ∧ Ke (· = g) wr w' := by
  have HB := Lib.hid (rWord_bd h)
  have h0 := rSome_bytes h 4 0
  have h1 := rSome_bytes h 4 1
  have h2 := rSome_bytes h 4 2
  have h3 := rSome_bytes h 4 3
  cases e : (rSome 4 s).2 with
  | none =>
    have HS := Lib.hid (some_bad h 4 (by decide) e)
    have e1 : (rSome 4 s).1 = [] := by
      cases s with
      | none => rfl
      | some l =>
        unfold rSome at e ⊢
        simp only at e ⊢
        split
        · rfl
        · rename_i hh; rw [if_neg hh] at e; cases e
    have HX : Hid ((rWord s).1 = 0 ∧ (rWord s).2 = none) := Lib.hid ⟨by unfold rWord; rw [e1]; rfl, e⟩
    clear h e e1
    have f1 : True := trivial
    go_enter Try.func27, Try.ntmps27
    go_wp2_with (first | (have _f := f1; refine HS.out.mono ?_; rintro e w' ⟨rfl, r1, k1⟩; have HR := Lib.hid r1; have HK := Lib.hid k1; clear r1 k1 _f f1 HS))
    refine wp_loop_rounds 1 ?_
    rw [rounds_succ]
    go_wp2
    go_ret
    rw [HX.out.1, HX.out.2]
    exact ⟨rfl, HR.out, HK.out⟩
  | some r =>
    have HS := Lib.hid (some_good h 4 (by decide) (by decide) (l := (rSome 4 s).1) (r := r) (by rw [← e]))
    have HS : Hid (Calls Try.prog 25 #[.pointer (some ⟨g, 0, none⟩), .int .i64 4] wr fun e w' => ∃ b o c, e = .returned (.slice (some ⟨b, o, none⟩) 4 c) ∧ (w'.cell? ⟨b, o, none⟩ = some (.int .u8 ((rSome 4 s).1.getD 0 0)) ∧ w'.cell? ⟨b, o + 1, none⟩ = some (.int .u8 ((rSome 4 s).1.getD 1 0)) ∧ w'.cell? ⟨b, o + 2, none⟩ = some (.int .u8 ((rSome 4 s).1.getD 2 0)) ∧ w'.cell? ⟨b, o + 3, none⟩ = some (.int .u8 ((rSome 4 s).1.getD 3 0))) ∧ Rdr w0 w' g (some r) ∧ Ke (· = g) wr w') :=
      Lib.hid (HS.out.mono fun e w' ⟨b, o, c, e1, c1, r1⟩ => ⟨b, o, c, e1, ⟨c1 0 (by decide), c1 1 (by decide), c1 2 (by decide), c1 3 (by decide)⟩, r1⟩)
    have HX : Hid ((rWord s).2 = some r) := Lib.hid e
    have HE : Hid ((rWord s).1 = (rSome 4 s).1.getD 0 0 + 256 * (rSome 4 s).1.getD 1 0 + 65536 * (rSome 4 s).1.getD 2 0 + 16777216 * (rSome 4 s).1.getD 3 0) := Lib.hid rfl
    clear e h HB
    generalize (rSome 4 s).1.getD 0 0 = x0 at *
    generalize (rSome 4 s).1.getD 1 0 = x1 at *
    generalize (rSome 4 s).1.getD 2 0 = x2 at *
    generalize (rSome 4 s).1.getD 3 0 = x3 at *
    have f1 : True := trivial
    go_enter Try.func27, Try.ntmps27
    go_wp2_with (first | (have _f := f1; refine HS.out.mono ?_; rintro e w' ⟨b, o, c, rfl, c1, r1, k1⟩; obtain ⟨d0, d1, d2, d3⟩ := c1; have HR := Lib.hid r1; have HK := Lib.hid k1; clear r1 k1 _f f1 HS))
    refine wp_loop_rounds 5 ?_
    rw [rounds_succ]
    go_wp2
    rw [rounds_succ]
    go_wp2
    rw [rounds_succ]
    go_wp2
    rw [rounds_succ]
    go_wp2
    rw [rounds_succ]
    go_wp2
    go_ret
    refine ⟨ret_int ?_, HX.out ▸ HR.out, HK.out⟩
    rw [HE.out]
    exact or4 h0 h1 h2 h3
end Go.Proofs.Yteagpjcflcahoaa
