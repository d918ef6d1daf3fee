/- Contracts: isa.bit, the closure 'put' of isa.Text; the joined text. -/
import Derived.Test.YtmnmbpenonodiaaDoorIsaNames0
import Derived.Test.YtmnmbpenonodiaaDoorSepMore
import Derived.Test.YtmnmbpenonodiaaDoorRiscNum
namespace Go.Proofs.YtmnmbpenonodiaaDoor
set_option linter.unusedVariables false
set_option linter.unusedSimpArgs false
open Go.RowKit Go.Lib

theorem bit_walk (f : Bool) (w : World) : Calls Tryd.prog 38 #[.bool f] w fun e w' => e = .returned (.int .i64 (if f then 1 else 0)) ∧ w = w' := by
  cases f
  all_goals
    (go_enter Tryd.func38, Tryd.ntmps38
     go_wp2
     go_ret
     exact ⟨rfl, rfl⟩)

theorem et_str : ET Tryd.prog 22 9 (.string ⟨#[]⟩) 1 16 := ET.of Tryd.underlying22 (by kernel_rfl) (by decide) (by decide)
theorem Ke.grown {w w' : World} {row : Option Nat} (h : w.grownBy w' row) : Ke (fun k => row = some k) w w' :=
  ⟨h.os, h.tape, h.output, h.size, fun k hk hG => h.block k hk (fun e => hG e.symm)⟩

/-- a block of strings, as 'buildSlice' lays it. -/
theorem rd_at {w : World} {g : Nat} {cs : Array Value} {t : TypeId} (h : At w g cs t) (hc : cs.size ≤ maxLen) : RdC w (some ⟨g, 0, none⟩) cs.size cs.size cs.toList :=
  ⟨⟨g, 0, fun _ => ⟨rfl, h.lt⟩, fun j u hj => by rw [Nat.zero_add, h.cell]; simpa using hj⟩, fun h => (by cases h), Nat.le_refl _, hc⟩
theorem strs_one (l : List ByteArray) : ∀ u ∈ l.map Value.string, u.oneCell' = true := by
  intro u hu
  obtain ⟨x, _, rfl⟩ := List.mem_map.1 hu
  rfl
theorem own_ke {w w' : World} {base e size n g : Nat} {v : Value} {xs : List Value} (h : w.ownsRow base e size v n xs) (k : Ke (· = g) w w') (hg : g < base) : w'.ownsRow base e size v n xs := by
  obtain ⟨h1, h2⟩ := h
  refine ⟨h1, ?_⟩
  rcases h2 with h2 | ⟨b, cap, cur, q1, q2, q3, q4⟩
  · exact .inl h2
  · exact .inr ⟨b, cap, cur, q1, q2, (k.block b (Array.getElem?_eq_some_iff.1 q3).1 (by intro hh; have hh' : b = g := hh; omega)).trans q3, q4⟩

/-- the list l: captured at block g. -/
structure Lst (w : World) (base g : Nat) (v : Value) (xs : List ByteArray) : Prop where
  at' : At w g #[v] 22
  own : w.ownsRow base 9 1 v xs.length (xs.map Value.string)
  lt : g < base
  le : base ≤ w.heap.size

set_option maxHeartbeats 2000000 in
theorem put_walk {w : World} {base g : Nat} {v : Value} {xs : List ByteArray} (L : Lst w base g v xs) {ad : Option Addr} {c : Nat} {news : List ByteArray} (hr : RdC w ad news.length c (news.map Value.string)) (hlen : xs.length + news.length ≤ 1000) :
    Calls Tryd.prog 34 #[.slice ad news.length c, .pointer (some ⟨g, 0, none⟩)] w fun e w' => e = .returned (.tuple #[]) ∧ ∃ v', Lst w' base g v' (xs ++ news) ∧ Ke (fun k => k = g ∨ v.ownBlock = some k) w w' := by
  have HL := Lib.hid L
  have HR := Lib.hid hr
  have c0 : w.cell? ⟨g, 0, none⟩ = some v := (L.at'.cell 0).trans rfl
  have h1 := Lib.hid (show (xs.length + news.length) * 16 ≤ 140737488355328 by omega)
  have h2 := Lib.hid (show xs.length + news.length ≤ 140737488355328 by omega)
  clear L hr hlen
  go_enter Tryd.func34, Tryd.ntmps34
  have fA : True := trivial
  have fB : True := trivial
  go_wp2_with (first | (have _f := fA; at_builtin; refine append_rd rfl (.tmp 3) (.tmp 4) et_str rfl base rfl HL.out.own rfl HR.out (by simp) (strs_one _) h1.out h2.out HL.out.le ?_; intro v' w1 own1 gr1; obtain ⟨a1, c1, rfl, rd1⟩ := RdC.own own1; have HO := Lib.hid own1; have HG := Lib.hid gr1; have S1 := Lib.hid (Sep.one (HL.out.at'.ke (Ke.grown gr1) (fun e => by have := HL.out.own.lt g e; have := HL.out.lt; omega))); clear fA _f own1 gr1 rd1) | (have _f := fB; refine store1_sep rfl 22 (.tmp 1) (.tmp 5) rfl S1.out 0 rfl rfl rfl rfl (by kernel_rfl) ?_ ?_; rfl; intro w2 S2 k2 s2; clear fB _f))
  go_end0
  have kw : Ke (fun k => k = g ∨ v.ownBlock = some k) w w1 := (Ke.grown HG.out).mono (fun i _ h => .inr h)
  have kk := kw.trans (k2.mono (fun i _ h => .inl h))
  refine ⟨rfl, ⟨_, ⟨S2.at 0 rfl, ?_, HL.out.lt, Nat.le_trans HL.out.le kk.size⟩⟩, kk⟩
  rw [List.length_append, List.map_append]
  exact own_ke HO.out k2 HL.out.lt

end Go.Proofs.YtmnmbpenonodiaaDoor
