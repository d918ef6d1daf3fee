/- Contracts: Symbol, Err, Names, Name. -/
import Derived.Test.YtdgiijidgjagbaaScanGet
namespace Go.Proofs.Ytdgiijidgjagbaa
set_option linter.unusedVariables false
set_option linter.unusedSimpArgs false
open Go.RowKit

variable {F : Nat → Prop} {w w' : World} {g : Nat} {s : Sc} {a : Option Addr} {c : Nat} {n : Value} {m : Nat}

def Sym.cells (x : Sym) : Array Value := #[.int .i64 x.sym, .int .i64 x.pos, .int .i32 x.val, .int .i64 x.id, nameV x.text]
def Sym.valV (x : Sym) : Value := .agg x.cells

set_option maxHeartbeats 1000000 in
theorem symbol_walk (H : ScnX F w g s a c n m) :
    Calls Try.prog 13 #[.pointer (some ⟨g, 0, none⟩)] w fun e w' => e = .returned s.sym.valV ∧ Below w.heap.size w w' := by
  have HH := Lib.hid H
  have HS := Lib.hid (Sep.nil w)
  clear H
  go_enter Try.func13, Try.ntmps13
  have f1 : True := trivial
  have f2 : True := trivial
  have f3 : True := trivial
  go_wp2_with (first | (have _f := f1; refine alloc_sep rfl 30 rfl HS.out (z := .agg #[.int .i64 0, .int .i64 0, .int .i32 0, .int .i64 0, .string ⟨#[]⟩]) (cs := #[.int .i64 0, .int .i64 0, .int .i32 0, .int .i64 0, .string ⟨#[]⟩]) (by kernel_rfl) rfl ?_; intro w1 S1 b1 s1; have HS1 := Lib.hid S1; have HB1 := Lib.hid b1; have HX1 := Lib.hid (HH.out.bel b1); clear S1 b1 s1 _f f1) | (refine (there_walk HX1.out).mono ?_; rintro e w' ⟨rfl, rfl⟩) | (have _f := f2; refine wpList_load_mid rfl 30 (.tmp 9) rfl g 2 rfl s.sym.cells.toList _ (HX1.out.at'.range 2 5) Try.underlying30 rfl (by kernel_rfl) ?_; clear _f f2) | (have _f := f3; refine store_sep rfl 30 (.tmp 2) (.tmp 10) rfl HS1.out 0 rfl rfl rfl rfl (by kernel_rfl) rfl ?_; intro w2 S2 k2 s2; have HS2 := Lib.hid S2; have HK2 := Lib.hid k2; clear S2 k2 s2 _f f3))
  refine bodyPost_ret (res_cell rfl rfl (HS2.out.at 0 rfl) Try.underlying30 rfl (by kernel_rfl)) rfl ?_
  refine ⟨rfl, ?_⟩
  exact ((Ke.below (· = w.heap.size) HB1.out).trans HK2.out).toBelow (fun i hi e => absurd e (Nat.ne_of_lt hi))

set_option maxHeartbeats 1000000 in
theorem err_walk (H : ScnX F w g s a c n m) :
    Calls Try.prog 15 #[.pointer (some ⟨g, 0, none⟩)] w fun e w' => e = .returned (.tuple #[.int .i64 s.err, .int .i64 s.pos]) ∧ Below w.heap.size w w' := by
  have c9 : w.cell? ⟨g, 9, none⟩ = some (.int .i64 s.err) := (H.at'.cell 9).trans rfl
  have c10 : w.cell? ⟨g, 10, none⟩ = some (.int .i64 s.pos) := (H.at'.cell 10).trans rfl
  have ht := there_walk H
  clear H
  go_enter Try.func15, Try.ntmps15
  go_wp2_with (refine ht.mono ?_; rintro e w' ⟨rfl, rfl⟩)
  go_quiet (fail)
  go_wp2
  go_ret2
  exact ⟨rfl, belN _ _⟩

set_option maxHeartbeats 1000000 in
theorem names_walk (H : ScnX F w g s a c n m) :
    Calls Try.prog 20 #[.pointer (some ⟨g, 0, none⟩)] w fun e w' => e = .returned (.int .i64 s.names.length) ∧ w = w' := by
  obtain ⟨p, d, hn, hr⟩ := H.names
  have c7 : w.cell? ⟨g, 7, none⟩ = some (.slice p s.names.length d) := (H.at'.cell 7).trans (by rw [hn]; rfl)
  have ht := there_walk H
  clear H hr hn
  go_enter Try.func20, Try.ntmps20
  go_wp2_with (refine ht.mono ?_; rintro e w' ⟨rfl, rfl⟩)
  go_ret
  exact ⟨rfl, rfl⟩

def Sc.nameOf (s : Sc) (id : Int) : List UInt8 := if 0 ≤ id ∧ id < s.names.length then s.names.getD id.toNat [] else []

set_option maxHeartbeats 1000000 in
theorem nameof_walk (H : ScnX F w g s a c n m) (id : Int) :
    Calls Try.prog 19 #[.pointer (some ⟨g, 0, none⟩), .int .i64 id] w fun e w' => e = .returned (nameV (s.nameOf id)) ∧ w = w' := by
  obtain ⟨p, d, hn, hr⟩ := H.names
  have c7 : w.cell? ⟨g, 7, none⟩ = some (.slice p s.names.length d) := (H.at'.cell 7).trans (by rw [hn]; rfl)
  have ht := there_walk H
  have i1 : (s.names.length : Int) ≤ 700 := by have := H.ok.nm; omega
  by_cases h0 : 0 ≤ id
  · by_cases h1 : id < s.names.length
    · obtain ⟨k, rfl⟩ := Int.eq_ofNat_of_zero_le h0
      have hk : k < s.names.length := by omega
      obtain ⟨_, h3⟩ := H.nms
      rcases h3 with ⟨_, h4⟩ | ⟨b, cap, cur, he, _, h5, h6, h7, h8, h9⟩
      · omega
      · rw [hn] at he
        simp only [Value.slice.injEq] at he
        obtain ⟨rfl, _, rfl⟩ := he
        obtain ⟨xb, hxb⟩ : ∃ xb : ByteArray, nameV (s.nameOf k) = .string xb := ⟨_, rfl⟩
        have ck : w.cell? ⟨b, k, none⟩ = some (.string xb) := by
          rw [(show At w b cur 9 from h5).cell k, ← hxb]
          have h10 : (cur.toList.take (s.names.length * 1))[k]? = some (nameV (s.nameOf k)) := by
            rw [h9, List.getElem?_map, List.getElem?_eq_getElem hk]
            unfold Sc.nameOf
            rw [if_pos ⟨h0, h1⟩]
            simp [List.getD_eq_getElem?_getD, hk]
          rw [List.getElem?_take] at h10
          split at h10
          · simpa using h10
          · cases h10
        rw [hxb]
        clear H hr hn hxb h5 h8 h9
        go_enter Try.func19, Try.ntmps19
        go_wp2_with (refine ht.mono ?_; rintro e w' ⟨rfl, rfl⟩)
        go_ret
        exact ⟨rfl, rfl⟩
    · have e : s.nameOf id = [] := by unfold Sc.nameOf; rw [if_neg (by omega)]
      rw [e]
      clear H hr hn e
      go_enter Try.func19, Try.ntmps19
      go_wp2_with (refine ht.mono ?_; rintro e w' ⟨rfl, rfl⟩)
      go_ret
      exact ⟨rfl, rfl⟩
  · have e : s.nameOf id = [] := by unfold Sc.nameOf; rw [if_neg (by omega)]
    have d0 : decide (id < 0) = true := decide_eq_true (by omega)
    rw [e]
    clear H hr hn e
    go_enter Try.func19, Try.ntmps19
    go_wp2_with (refine ht.mono ?_; rintro e w' ⟨rfl, rfl⟩)
    go_ret
    exact ⟨rfl, rfl⟩

end Go.Proofs.Ytdgiijidgjagbaa
