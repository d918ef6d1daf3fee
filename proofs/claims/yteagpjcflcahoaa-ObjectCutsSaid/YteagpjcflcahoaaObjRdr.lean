/- Contracts: the reader's methods. -/
import Derived.Test.YteagpjcflcahoaaObjRefBytes
import Derived.Test.YteagpjcflcahoaaObjBytes
import Derived.Test.YteagpjcflcahoaaSepApp
namespace Go.Proofs.Yteagpjcflcahoaa
set_option linter.unusedVariables false
set_option linter.unusedSimpArgs false
open Go.RowKit

/-- what is left of bytes that lay in w0. -/
def Left (w0 : World) (B : Value) (bad : Bool) : St → Prop
  | none => B = .slice none 0 0 ∧ bad = true
  | some l => bad = false ∧ ∃ a c, B = .slice a l.length c ∧ RdI .u8 w0 a c l ∧ (a = none ∨ ∃ b o, a = some ⟨b, o, none⟩)
structure Rdr (w0 wr : World) (g : Nat) (s : St) : Prop where
  low : w0.heap.size ≤ g
  bel : Below w0.heap.size w0 wr
  box : ∃ B bad, At wr g #[B, .bool bad] 58 ∧ Left w0 B bad s
variable {w0 wr wz : World} {g : Nat} {s : St}
theorem Rdr.on (h : Rdr w0 wr g s) (k : Below wr.heap.size wr wz) : Rdr w0 wz g s := by
  obtain ⟨B, bad, h1, h2⟩ := h.box
  exact ⟨h.low, bel_then h.bel k, B, bad, h1.bel k, h2⟩
theorem Rdr.mk' {B : Value} {bad : Bool} (hl : w0.heap.size ≤ g) (hb : Below w0.heap.size w0 wr) (k : Ke (· = g) wr wz) (ha : At wz g #[B, .bool bad] 58) (hs : Left w0 B bad s) : Rdr w0 wz g s :=
  ⟨hl, ((Ke.below (fun i => w0.heap.size ≤ i) hb).trans (k.mono (fun i _ e => by subst e; exact hl))).toBelow (fun i hi e => absurd hi (Nat.not_lt.2 e)), B, bad, ha, hs⟩

set_option maxHeartbeats 2000000 in
/-- too little: the reader is bad. -/
theorem some_few (h : Rdr w0 wr g s) (n : Nat) (hn : n ≤ 1000000) (hf : ∀ l, s = some l → l.length < n) :
    Calls Try.prog 25 #[.pointer (some ⟨g, 0, none⟩), .int .i64 n] wr fun e w' => e = .returned (.slice none 0 0) ∧ Rdr w0 w' g none ∧ Ke (· = g) wr w' := by
  obtain ⟨hl, hb, B, bad, ha, hs⟩ := h
  have HL := Lib.hid hl
  have HB := Lib.hid hb
  have HS0 := Lib.hid (Sep.one ha)
  have c0 : wr.cell? ⟨g, 0, none⟩ = some B := (ha.cell 0).trans rfl
  have c1 : wr.cell? ⟨g, 1, none⟩ = some (.bool bad) := (ha.cell 1).trans rfl
  have HF : Hid (∃ a c m, B = .slice a m c ∧ (m < n ∨ (n = 0 ∧ m = 0 ∧ c = 0 ∧ a = none ∧ bad = true))) := by
    refine Lib.hid ?_
    cases s with
    | none =>
      obtain ⟨rfl, rfl⟩ := hs
      rcases Nat.eq_zero_or_pos n with h0 | h0
      · exact ⟨none, 0, 0, rfl, .inr ⟨h0, rfl, rfl, rfl, rfl⟩⟩
      · exact ⟨none, 0, 0, rfl, .inl h0⟩
    | some l =>
      obtain ⟨rfl, a, c, rfl, _⟩ := hs
      exact ⟨a, c, l.length, rfl, .inl (hf l rfl)⟩
  clear hs hf hl hb
  obtain ⟨a, c, m, rfl, hm⟩ := HF.out
  rcases hm with hm | ⟨rfl, rfl, rfl, rfl, rfl⟩
  · have hm' : (m : Int) < n := by omega
    have f1 : True := trivial
    have f2 : True := trivial
    clear HF ha
    go_enter Try.func25, Try.ntmps25
    go_wp2_with (first | (have _f := f1; refine store1_sep rfl 24 (.tmp 16) _ rfl HS0.out 0 (v := .slice none 0 0) rfl rfl rfl rfl (by kernel_rfl) rfl ?_; intro w2 S2 k2 _; have HS2 := Lib.hid S2; have HK2 := Lib.hid k2; clear S2 k2 c0 c1 _f f1) | (have _f := f2; refine store1_sep rfl 4 (.tmp 18) _ rfl HS2.out 0 (v := .bool true) rfl rfl rfl rfl (by kernel_rfl) rfl ?_; intro w3 S3 k3 _; have HS3 := Lib.hid S3; have HK3 := Lib.hid (HK2.out.trans k3); have c1 : w3.cell? ⟨g, 1, none⟩ = some (.bool true) := ((S3.at 0 rfl).cell 1).trans rfl; clear S3 k3 _f f2))
    go_ret
    exact ⟨rfl, Rdr.mk' HL.out HB.out HK3.out (HS3.out.at 0 rfl) ⟨rfl, rfl⟩, HK3.out⟩
  · have HA := Lib.hid ha
    clear HF ha
    go_enter Try.func25, Try.ntmps25
    go_wp2
    go_ret
    exact ⟨rfl, ⟨HL.out, HB.out, _, _, HA.out, rfl, rfl⟩, Ke.refl _ _⟩

set_option maxHeartbeats 2000000 in
/-- enough: the next ones. -/
theorem some_much {l : List Int} (h : Rdr w0 wr g (some l)) (n : Nat) (hn : n ≤ 1000000) (hf : n ≤ l.length) :
    Calls Try.prog 25 #[.pointer (some ⟨g, 0, none⟩), .int .i64 n] wr fun e w' => ∃ a c, e = .returned (.slice a (l.take n).length c) ∧ RdI .u8 w0 a c (l.take n) ∧ (1 ≤ n → ∃ b o, a = some ⟨b, o, none⟩) ∧ Rdr w0 w' g (some (l.drop n)) ∧ Ke (· = g) wr w' := by
  obtain ⟨hl, hb, B, bad, ha, rfl, a, c, rfl, hr, hA⟩ := h
  have HL := Lib.hid hl
  have HB := Lib.hid hb
  have HR := Lib.hid hr
  have hlen := hr.len
  have hcap := hr.row.cap
  have hle := hr.row.le
  unfold maxLen at hcap
  have c0 : wr.cell? ⟨g, 0, none⟩ = some (.slice a l.length c) := (ha.cell 0).trans rfl
  have c1 : wr.cell? ⟨g, 1, none⟩ = some (.bool false) := (ha.cell 1).trans rfl
  have HS0 := Lib.hid (Sep.one ha)
  clear hb hl ha
  rcases hA with rfl | ⟨b, o, rfl⟩
  · have h0 := hr.row.nil rfl
    have hl0 : l = [] := List.length_eq_zero_iff.1 (by simpa using h0.1)
    subst hl0
    obtain rfl : n = 0 := by simpa using hf
    obtain rfl : c = 0 := h0.2
    have f2 : True := trivial
    clear h0 hr
    go_enter Try.func25, Try.ntmps25
    go_wp2_with (first | (have _f := f2; refine store1_sep rfl 24 (.tmp 37) _ rfl HS0.out 0 (v := .slice none 0 0) rfl rfl rfl rfl (by kernel_rfl) rfl ?_; intro w3 S3 k3 _; have HS3 := Lib.hid S3; have HK3 := Lib.hid k3; clear S3 k3 c0 c1 _f f2))
    go_ret
    exact ⟨none, 0, rfl, HR.out, fun h => by omega, Rdr.mk' HL.out HB.out HK3.out (HS3.out.at 0 rfl) ⟨rfl, none, 0, rfl, HR.out, .inl rfl⟩, HK3.out⟩
  · have f2 : True := trivial
    have ht := hr.take n hf
    have hd := hr.drop n hf
    rcases Nat.lt_or_ge n c with hc | hc
    · rw [if_neg (by omega)] at hd
      have HT := Lib.hid ht
      have HD := Lib.hid hd
      clear hr ht hd
      go_enter Try.func25, Try.ntmps25
      go_wp2_with (first | (have _f := f2; refine store1_sep rfl 24 (.tmp 37) _ rfl HS0.out 0 (v := .slice (some ⟨b, o + n, none⟩) (l.length - n) (c - n)) rfl rfl rfl rfl (by kernel_rfl) rfl ?_; intro w3 S3 k3 _; have HS3 := Lib.hid S3; have HK3 := Lib.hid k3; clear S3 k3 c0 c1 _f f2))
      go_ret
      refine ⟨_, _, by rw [HT.out.2]; rfl, HT.out.1, fun _ => ⟨_, _, rfl⟩, Rdr.mk' HL.out HB.out HK3.out (HS3.out.at 0 rfl) ⟨rfl, some ⟨b, o + n, none⟩, c - n, by rw [HD.out.2], HD.out.1, .inr ⟨b, o + n, rfl⟩⟩, HK3.out⟩
    · obtain rfl : c = n := by omega
      rw [if_pos rfl] at hd
      obtain rfl : c = l.length := by omega
      have HT := Lib.hid ht
      have HD := Lib.hid hd
      clear hr ht hd
      go_enter Try.func25, Try.ntmps25
      go_wp2_with (first | (have _f := f2; refine store1_sep rfl 24 (.tmp 37) _ rfl HS0.out 0 (v := .slice (some ⟨b, o, none⟩) 0 0) rfl rfl rfl rfl (by kernel_rfl) rfl ?_; intro w3 S3 k3 _; have HS3 := Lib.hid S3; have HK3 := Lib.hid k3; clear S3 k3 c0 c1 _f f2))
      go_ret
      refine ⟨_, _, by rw [HT.out.2]; rfl, HT.out.1, fun _ => ⟨_, _, rfl⟩, Rdr.mk' HL.out HB.out HK3.out (HS3.out.at 0 rfl) ⟨rfl, some ⟨b, o, none⟩, 0, by rw [HD.out.2, Nat.sub_self], by have := HD.out.1; rwa [Nat.sub_self] at this, .inr ⟨b, o, rfl⟩⟩, HK3.out⟩

/-- the next bytes. -/
theorem some_walk (h : Rdr w0 wr g s) (n : Nat) (hn : n ≤ 1000000) :
    Calls Try.prog 25 #[.pointer (some ⟨g, 0, none⟩), .int .i64 n] wr fun e w' => ∃ a c, e = .returned (.slice a (rSome n s).1.length c) ∧ RdI .u8 w0 a c (rSome n s).1 ∧ (1 ≤ n → (rSome n s).2 ≠ none → ∃ b o, a = some ⟨b, o, none⟩) ∧ ((rSome n s).2 = none → a = none ∧ c = 0) ∧ Rdr w0 w' g (rSome n s).2 ∧ Ke (· = g) wr w' := by
  have few : (∀ l, s = some l → l.length < n) → rSome n s = ([], none) := by
    intro hf
    cases s with
    | none => rfl
    | some l => unfold rSome; simp only; rw [if_pos (hf l rfl)]
  by_cases hf : ∀ l, s = some l → l.length < n
  · rw [few hf]
    refine (some_few h n hn hf).mono fun e w' ⟨e1, e2, e3⟩ => ?_
    exact ⟨none, 0, e1, ⟨RdC.nilSlice _, fun x hx => (by cases hx)⟩, fun _ hh => absurd rfl hh, fun _ => ⟨rfl, rfl⟩, e2, e3⟩
  · cases s with
    | none => exact absurd (fun l h => by cases h) hf
    | some l =>
      have hf' : n ≤ l.length := by
        refine Nat.not_lt.1 fun hlt => hf fun l' e => ?_
        obtain rfl := Option.some.inj e
        exact hlt
      have e : rSome n (some l) = (l.take n, some (l.drop n)) := by unfold rSome; simp only; rw [if_neg (by omega)]
      rw [e]
      refine (some_much h n hn hf').mono fun e w' ⟨a, c, e1, e2, e3, e4, e5⟩ => ?_
      exact ⟨a, c, e1, e2, fun h1 _ => e3 h1, (by intro h1; exact absurd h1 (by simp)), e4, e5⟩
end Go.Proofs.Yteagpjcflcahoaa
