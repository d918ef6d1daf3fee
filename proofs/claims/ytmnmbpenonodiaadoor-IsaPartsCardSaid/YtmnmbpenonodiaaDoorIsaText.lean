/- Contract of isa.Text at three instructions. -/
import Derived.Test.YtmnmbpenonodiaaDoorIsaPut
import Derived.Test.YtmnmbpenonodiaaDoorMixA
namespace Go.Proofs.YtmnmbpenonodiaaDoor
set_option linter.unusedVariables false
set_option linter.unusedSimpArgs false
open Go.RowKit Go.Lib

abbrev i1 : Ins := ⟨1, false, false, 1, 2, 0, 8, 5, 0, 0, 0⟩
abbrev i2 : Ins := ⟨4, false, true, 0, 0, 0, 0, 0, -1, 7, 0⟩
abbrev i3 : Ins := ⟨6, false, false, 0, 0, 0, 0, 0, 0, 7, 16⟩

theorem bel_keG {w w2 w3 : World} {G : Nat → Prop} (h : Below w.heap.size w w2) (k : Ke G w2 w3) (hg : ∀ i, G i → w.heap.size ≤ i) : Below w.heap.size w w3 :=
  ⟨k.os.trans h.os, k.tape.trans h.tape, k.output.trans h.output, Nat.le_trans h.size k.size, fun i hi => (k.block i (Nat.lt_of_lt_of_le hi h.size) (fun hh => by have := hg i hh; omega)).trans (h.block i hi)⟩

/-- the joined text of a list. -/
theorem join_walk {w : World} {base g : Nat} {v : Value} {xs : List ByteArray} (L : Lst w base g v xs) (h0 : 0 < xs.length) (hn : xs.length ≤ 1000) (hlen : (join (xs.map (·.data.toList)) [32]).length ≤ 100000) (t : ByteArray) (ht : (⟨(join (xs.map (·.data.toList)) [32]).toArray⟩ : ByteArray) = t) :
    Calls Tryd.prog 39 #[v, .string ⟨#[32]⟩] w fun e w' => e = .returned (.string t) ∧ Below w.heap.size w w' := by
  obtain ⟨a, c, rfl, hr⟩ := RdC.own L.own
  obtain ⟨b, o, h1, h2⟩ := hr.at'
  obtain ⟨rfl, hbl⟩ := h1 (by rw [List.length_map]; exact h0)
  refine (Tryd.strings_Join b o c xs ⟨#[32]⟩ w (fun j x hj => h2 j _ (by rw [List.getElem?_map, hj]; rfl)) hbl (by omega) hr.le (by have e : (⟨#[32]⟩ : ByteArray).data.toList = [32] := rfl; rw [e]; omega)).mono fun e w' ⟨he, hw⟩ => ⟨?_, hw⟩
  rw [he, ← ht]

theorem Lst.ke {w w' : World} {base g : Nat} {v : Value} {xs : List ByteArray} {G : Nat → Prop} (L : Lst w base g v xs) (k : Ke G w w') (hg : ¬ G g) (hv : ∀ i, v.ownBlock = some i → ¬ G i) : Lst w' base g v xs := by
  obtain ⟨h1, ⟨h2, h3⟩, h4, h5⟩ := L
  refine ⟨h1.ke k hg, ⟨h2, ?_⟩, h4, Nat.le_trans h5 k.size⟩
  rcases h3 with h3 | ⟨b, cap, cur, rfl, q2, q3, q4⟩
  · exact .inl h3
  · exact .inr ⟨b, cap, cur, rfl, q2, (k.block b (Array.getElem?_eq_some_iff.1 q3).1 (hv b rfl)).trans q3, q4⟩
theorem Lst.bel {w w' : World} {base g : Nat} {v : Value} {xs : List ByteArray} (L : Lst w base g v xs) (k : Below w.heap.size w w') : Lst w' base g v xs := L.ke (Ke.below Non k) (fun h => h) (fun _ _ h => h)
theorem Lst.nil {w : World} {g : Nat} (h : At w g #[.slice none 0 0] 22) : Lst w (g + 1) g (.slice none 0 0) [] := ⟨h, World.ownsRow_nil w _ _ _, Nat.lt_succ_self _, h.lt⟩
theorem Lst.base {w : World} {base g : Nat} {v : Value} {xs : List ByteArray} (L : Lst w base g v xs) {i : Nat} (h : v.ownBlock = some i) : base ≤ i := (L.own.lt i h).1

/-- put, behind 'buildSlice'. -/
theorem put_new {w : World} {base g : Nat} {v : Value} {xs : List ByteArray} (L : Lst w base g v xs) (news : List ByteArray) (cs : Array Value) (hcs : cs = (news.map Value.string).toArray) (n : Nat) (hn : n = news.length) (hlen : xs.length + news.length ≤ 1000) :
    Calls Tryd.prog 34 #[.slice (some ⟨w.heap.size, 0, none⟩) n n, .pointer (some ⟨g, 0, none⟩)] (w.alloc (.cells cs 9)) fun e w' => e = .returned (.tuple #[]) ∧ ∃ v', Lst w' base g v' (xs ++ news) ∧ Ke (fun k => k = g ∨ v.ownBlock = some k) (w.alloc (.cells cs 9)) w' := by
  subst hcs hn
  have h := rd_at (At.new w (news.map Value.string).toArray 9) (by simp [maxLen]; omega)
  simp only [List.size_toArray, List.length_map] at h
  exact put_walk (L.bel (bel1 w _)) h hlen

/-- where isa.Text stands: the list, the instruction's block, all that was. -/
structure St (w0 w : World) (base g gi : Nat) (v : Value) (xs : List ByteArray) (ci : Array Value) : Prop where
  L : Lst w base g v xs
  I : At w gi ci 29
  B : Below w0.heap.size w0 w
  lo : w0.heap.size ≤ gi
  ord : gi < g
theorem St.bel {w0 w w' : World} {base g gi : Nat} {v : Value} {xs : List ByteArray} {ci : Array Value} (s : St w0 w base g gi v xs ci) (k : Below w.heap.size w w') : St w0 w' base g gi v xs ci :=
  ⟨s.L.bel k, s.I.bel k, bel_then s.B k, s.lo, s.ord⟩
theorem St.laid {w0 w : World} {base g gi : Nat} {v : Value} {xs : List ByteArray} {ci : Array Value} (s : St w0 w base g gi v xs ci) (h : Laid w0) : Laid w := h.bel s.B
theorem put_st {w0 w : World} {base g gi : Nat} {v : Value} {xs : List ByteArray} {ci : Array Value} (s : St w0 w base g gi v xs ci) (news : List ByteArray) (cs : Array Value) (hcs : cs = (news.map Value.string).toArray) (n : Nat) (hn : n = news.length) (hlen : xs.length + news.length ≤ 1000) :
    Calls Tryd.prog 34 #[.slice (some ⟨w.heap.size, 0, none⟩) n n, .pointer (some ⟨g, 0, none⟩)] (w.alloc (.cells cs 9)) fun e w' => e = .returned (.tuple #[]) ∧ ∃ v', St w0 w' base g gi v' (xs ++ news) ci ∧ Ke (fun k => k = g ∨ v.ownBlock = some k) (w.alloc (.cells cs 9)) w' :=
  (put_new s.L news cs hcs n hn hlen).mono fun e w' ⟨he, v', L', k'⟩ => ⟨he, v', ⟨L', (s.I.old _).ke k' (fun h => by
      have h1 := s.ord
      have h2 := s.L.lt
      rcases h with h | h
      · omega
      · have := s.L.base h; omega), bel_keG (bel_then s.B (bel1 w _)) k' (fun i h => by
      have h1 := s.ord
      have h2 := s.L.lt
      have h3 := s.lo
      rcases h with h | h
      · omega
      · have := s.L.base h; omega), s.lo, s.ord⟩, k'⟩

set_option maxRecDepth 20000 in
set_option maxHeartbeats 8000000 in
theorem text_1 (w : World) (hL : Laid w) (hM : ∀ w, Calls Tryd.prog 19 #[i1.val] w fun e w' => e = .returned (.bool true) ∧ Below w.heap.size w w') :
    Calls Tryd.prog 20 #[i1.val] w fun e w' => e = .returned (.tuple #[.string ⟨#[65, 68, 68, 32, 82, 49, 32, 82, 50, 32, 53]⟩, .int .i64 0]) ∧ Below w.heap.size w w' := by
  have HL := Lib.hid hL
  have HM := Lib.hid hM
  have H0 := (Sep.nil w).alloc #[.int .i64 1, .bool false, .bool false, .int .i64 1, .int .i64 2, .int .i64 0, .int .i64 8, .int .i64 5, .int .i64 0, .int .i64 0, .int .i64 0] 29
  have B0 := Lib.hid (bel1 w (.cells #[.int .i64 1, .bool false, .bool false, .int .i64 1, .int .i64 2, .int .i64 0, .int .i64 8, .int .i64 5, .int .i64 0, .int .i64 0, .int .i64 0] 29))
  clear hL hM
  go_enter Tryd.func20, Tryd.ntmps20
  go_wp2_with (refine load_sep rfl 29 (.tmp 1) rfl H0 0 rfl rfl Tryd.underlying29 rfl (by kernel_rfl) ?_)
  refine (HM.out _).mono ?_
  rintro e w1 ⟨rfl, hb1⟩
  have H1 := H0.bel hb1
  have B1 := Lib.hid (bel_then B0.out hb1)
  clear hb1 H0
  have fA : True := trivial
  go_wp2_with (have _f := fA; refine alloc_sep rfl 22 rfl H1 (z := .slice none 0 0) (cs := #[.slice none 0 0]) (by kernel_rfl) rfl ?_; intro w2 H2 b2 s2; have B2 := Lib.hid (bel_then B1.out b2); have g2 : w1.heap.size < w2.heap.size := (by omega); have f0 : w2.cell? ⟨w.heap.size, 0, none⟩ = some (.int .i64 1) := ((H2.at 1 rfl).cell 0).trans rfl; clear fA _f s2 b2)
  refine wp_region_mixK (· = w1.heap.size) [([0, 1, 2, 4, 5], 3), ([], 6), ([], 7), ([], 8)] [] (by kernel_rfl) (by kernel_rfl) (fun _ _ d _ _ h => by cases d <;> exact h) ?_
  intro w3 hb3
  have H3 := H2.bel hb3
  have B3 := Lib.hid (bel_then B2.out hb3)
  have g3 : w1.heap.size < w3.heap.size := Nat.lt_of_lt_of_le g2 hb3.size
  have n1 : ¬ (w.heap.size = w1.heap.size) := Nat.ne_of_lt ((H1.at 0 rfl).lt)
  have q1 := (H3.at 1 rfl).laterCell (G := (· = w1.heap.size)) n1 6 (v := .int .i64 8) rfl
  have q2 := (H3.at 1 rfl).laterCell (G := (· = w1.heap.size)) n1 3 (v := .int .i64 1) rfl
  refine mixK_step ?_
  simp only [pickOps, nth]
  (repeat (go_big_quiet_step (fail)))
  refine wpQuiet_nil ?_
  go_wp2_with fail
  have e8 : opN 8 = ⟨#[65, 68, 68]⟩ := by kernel_rfl
  refine (op_walk 8 _ (by decide)).mono ?_
  rw [e8]
  rintro e w4 ⟨rfl, hb4⟩
  have H4 := H3.bel hb4
  have B4 := Lib.hid (bel_then B3.out hb4)
  have HB4 := Lib.hid hb4
  have g4 : w1.heap.size < w4.heap.size := Nat.lt_of_lt_of_le g3 hb4.size
  clear q1 q2 hb3 hb4 H3 e8
  go_wp2_with fail
  refine ⟨Ke.below _ HB4.out, mixK_step ?_⟩
  simp only [pickOps, nth]
  refine wpQuiet_nil ?_
  go_wp2_with fail
  have e1 : (⟨#[82]⟩ ++ num 1 : ByteArray) = ⟨#[82, 49]⟩ := by kernel_rfl
  refine (reg_walk 1 _ (by decide) (HL.out.bel B4.out)).mono ?_
  rw [e1]
  rintro e w5 ⟨rfl, hb5⟩
  have H5 := H4.bel hb5
  have B5 := Lib.hid (bel_then B4.out hb5)
  have HB5 := Lib.hid hb5
  have g5 : w1.heap.size < w5.heap.size := Nat.lt_of_lt_of_le g4 hb5.size
  clear hb5 e1 H4
  go_wp2_with fail
  refine ⟨Ke.below _ HB5.out, mixK_step ?_⟩
  simp only [pickOps, nth]
  refine wpQuiet_nil ?_
  go_wp2_with fail
  refine ⟨Ke.below _ (bel1 _ _), mixK_step ?_⟩
  simp only [pickOps, nth]
  refine wpQuiet_nil ?_
  go_wp2_with fail
  have s5 : St w w5 (w1.heap.size + 1) w1.heap.size w.heap.size (.slice none 0 0) [] _ := ⟨Lst.nil (H5.at 0 rfl), H5.at 1 rfl, B5.out, Nat.le_refl _, (H1.at 0 rfl).lt⟩
  refine (put_st s5 [⟨#[65, 68, 68]⟩, ⟨#[82, 49]⟩] _ rfl 2 rfl (by decide)).mono ?_
  rintro e w6 ⟨rfl, v6, s6, k6⟩
  have HK6 : Hid (Ke (· = w1.heap.size) _ w6) := Lib.hid (k6.mono (fun i _ h => by rcases h with h | h; exact h; cases h))
  have S6 := Lib.hid s6
  have f1 : w6.cell? ⟨w.heap.size, 1, none⟩ = some (.bool false) := (s6.I.cell 1).trans rfl
  have f6 : w6.cell? ⟨w.heap.size, 6, none⟩ = some (.int .i64 8) := (s6.I.cell 6).trans rfl
  have f4 : w6.cell? ⟨w.heap.size, 4, none⟩ = some (.int .i64 2) := (s6.I.cell 4).trans rfl
  clear k6 s6 s5 f0 n1
  go_wp2_with fail
  refine ⟨HK6.out, mixK_end ?_⟩
  simp only [pickOps, nth]
  refine wpQuiet_nil ?_
  go_wp2_with fail
  have e2 : (⟨#[82]⟩ ++ num 2 : ByteArray) = ⟨#[82, 50]⟩ := by kernel_rfl
  refine (reg_walk 2 _ (by decide) (S6.out.laid HL.out)).mono ?_
  rw [e2]
  rintro e w7 ⟨rfl, hb7⟩
  have s7 := S6.out.bel hb7
  clear e2 hb7
  go_wp2_with fail
  refine (put_st s7 [⟨#[82, 50]⟩] _ rfl 1 rfl (by decide)).mono ?_
  rintro e w8 ⟨rfl, v8, s8, k8⟩
  have S8 := Lib.hid s8
  have h1 : w8.cell? ⟨w.heap.size, 0, none⟩ = some (.int .i64 1) := (s8.I.cell 0).trans rfl
  have h2 : w8.cell? ⟨w.heap.size, 1, none⟩ = some (.bool false) := (s8.I.cell 1).trans rfl
  have h3 : w8.cell? ⟨w.heap.size, 6, none⟩ = some (.int .i64 8) := (s8.I.cell 6).trans rfl
  have R8 := Lib.hid (Sep.one s8.I)
  clear s7 s8 k8 f1 f6 f4
  go_wp2_with (refine load_sep rfl 29 (.tmp 1) rfl R8.out 0 rfl rfl Tryd.underlying29 rfl (by kernel_rfl) ?_)
  refine (value_walk i1 _).mono ?_
  rw [show i1.value = 5 by kernel_rfl]
  rintro e w9 ⟨rfl, hb9⟩
  have s9 := S8.out.bel hb9
  have S9 := Lib.hid s9
  clear hb9 s9
  go_wp2_with fail
  have e5 : num (W.sg 5) = ⟨#[53]⟩ := by kernel_rfl
  refine (dec_walk 5 _ (by decide) (S9.out.laid HL.out)).mono ?_
  rw [e5]
  rintro e w10 ⟨rfl, hb10⟩
  have s10 := S9.out.bel hb10
  clear e5 hb10
  go_wp2_with fail
  refine (put_st s10 [⟨#[53]⟩] _ rfl 1 rfl (by decide)).mono ?_
  rintro e w11 ⟨rfl, v11, s11, k11⟩
  have S11 := Lib.hid s11
  have c4 : w11.cell? ⟨w1.heap.size, 0, none⟩ = some v11 := (s11.L.at'.cell 0).trans rfl
  clear s10 s11 k11 h1 h2 h3
  go_wp2_with fail
  refine (join_walk S11.out.L (by decide) (by decide) (by decide) ⟨#[65, 68, 68, 32, 82, 49, 32, 82, 50, 32, 53]⟩ (by kernel_rfl)).mono ?_
  rintro e w12 ⟨rfl, hb12⟩
  have B12 := Lib.hid (bel_then S11.out.B hb12)
  clear hb12
  go_wp2_with fail
  go_ret2
  exact ⟨rfl, B12.out⟩

end Go.Proofs.YtmnmbpenonodiaaDoor
