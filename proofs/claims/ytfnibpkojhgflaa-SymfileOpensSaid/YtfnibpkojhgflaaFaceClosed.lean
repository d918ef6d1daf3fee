/- Contracts: is a reference to no open type: here and in the reference. -/
import Derived.Test.YtfnibpkojhgflaaFaceRef
namespace Go.Proofs.Ytfnibpkojhgflaa
set_option linter.unusedVariables false
set_option linter.unusedSimpArgs false
open Go.RowKit

theorem env_ni (f : Fc) : f.d.env.ni = f.imps.l.length := rfl
theorem env_len (f : Fc) : f.d.env.forms.length = f.types.l.length := by show (((f.types.l.map FT.d).map TD.form)).length = _; rw [List.length_map, List.length_map]
theorem env_get (f : Fc) {j : Nat} {x : FT} (h : f.types.l[j]? = some x) : f.d.env.forms[j]? = some x.form := by
  show ((f.types.l.map FT.d).map TD.form)[j]? = _
  rw [List.getElem?_map, List.getElem?_map, h]; rfl
theorem closed_no {e : Env} {r : Rf} (h : refB e r = false) : closedB e r = false := by unfold closedB; rw [h]; rfl
theorem closed_far {e : Env} {r : Rf} (h : refB e r = true) (h2 : ¬ (r.mod = 0 ∧ 16 ≤ r.idx)) : closedB e r = true := by unfold closedB opened; rw [h, decide_eq_false h2]; rfl
theorem closed_own {e : Env} {j : Nat} {x : Int} (h : refB e ⟨0, j + 16⟩ = true) (hx : e.forms[j]? = some x) : closedB e ⟨0, j + 16⟩ = (x != 4) := by
  unfold closedB opened
  rw [h, decide_eq_true (by constructor; rfl; show (16 : Int) ≤ j + 16; omega)]
  show (true && !(true && (e.forms[((j : Int) + 16 - 16).toNat]? == some 4))) = _
  rw [show ((j : Int) + 16 - 16).toNat = j by omega, hx]
  show (true && !(true && (some x == some 4))) = _
  simp [bne]
theorem rows_form {w : World} {l2 : List FT} {b o : Nat} (h : RowAt ftD w b o l2) {j : Nat} {x : FT} (hx : l2[j]? = some x) : w.cell? ⟨b, o + j * 6, none⟩ = some (.int .i64 x.form) := h j x hx 0 _ rfl

set_option maxRecDepth 100000 in
set_option maxHeartbeats 4000000 in
theorem closed_walk (f : Fc) (r : Rf) (w : World) (h : f.Rd w) (hr : r.ok) (hn2 : f.types.l.length ≤ 100000000000) :
    Calls Try.prog 55 #[f.val, r.val] w fun e' w' => e' = .returned (.bool (closedB f.d.env r)) ∧ Below w.heap.size w w' := by
  have i1 := h.imps.len
  obtain ⟨b, o, hat, hcell⟩ := h.types.at'
  have HRF : Hid (∀ W : World, Calls Try.prog 61 #[f.val, r.val] W fun e' w' => e' = .returned (.bool (refB f.d.env r)) ∧ Below W.heap.size W w') := Lib.hid (fun W => ref_walk f.name f.imps.a f.types.a f.objs.a f.imps.l.length f.types.l.length f.objs.l.length f.imps.c f.types.c f.objs.c r.mod r.idx W f.d.env (env_ni f) (env_len f) i1 (by omega) hr)
  have HEL := Lib.hid (env_len f)
  have HEG := Lib.hid (fun (j : Nat) (x : FT) (hx : f.types.l[j]? = some x) => env_get f hx)
  have HAT := Lib.hid hat
  have HC := Lib.hid hcell
  clear h hat hcell
  obtain ⟨e, he⟩ : ∃ e, e = f.d.env := ⟨_, rfl⟩
  rw [← he] at HRF HEL HEG ⊢
  clear he
  obtain ⟨nm, ⟨a1, c1, l1⟩, ⟨a2, c2, l2⟩, ⟨a3, c3, l3⟩⟩ := f
  obtain ⟨m, i⟩ := r
  obtain ⟨⟨m1, m2⟩, i1', i2⟩ := hr
  show Calls _ _ #[.agg #[.string nm, .slice a1 l1.length c1, .slice a2 l2.length c2, .slice a3 l3.length c3], .agg #[.int .i64 m, .int .i64 i]] w _
  have HRG : Hid (∀ W : World, Calls Try.prog 61 #[.agg #[.string nm, .slice a1 l1.length c1, .slice a2 l2.length c2, .slice a3 l3.length c3], .agg #[.int .i64 m, .int .i64 i]] W fun e' w' => e' = .returned (.bool (refB e ⟨m, i⟩)) ∧ Below W.heap.size W w') := HRF
  clear HRF
  dsimp only at i1 hn2 m1 m2 i1' i2 HAT HC HEL HEG
  have HBW := Lib.hid (bel2 w (.cells #[.string nm, .slice a1 l1.length c1, .slice a2 l2.length c2, .slice a3 l3.length c3] 26) (.cells #[.int .i64 m, .int .i64 i] 30))
  have HG1 := Lib.hid ((At.new w #[.string nm, .slice a1 l1.length c1, .slice a2 l2.length c2, .slice a3 l3.length c3] 26).old (.cells #[.int .i64 m, .int .i64 i] 30))
  have HG2 : Hid (At ((w.alloc (.cells #[.string nm, .slice a1 l1.length c1, .slice a2 l2.length c2, .slice a3 l3.length c3] 26)).alloc (.cells #[.int .i64 m, .int .i64 i] 30)) (w.heap.size + 1) #[.int .i64 m, .int .i64 i] 30) := Lib.hid (by have := At.new (w.alloc (.cells #[.string nm, .slice a1 l1.length c1, .slice a2 l2.length c2, .slice a3 l3.length c3] 26)) #[.int .i64 m, .int .i64 i] 30; rwa [show (w.alloc (.cells #[.string nm, .slice a1 l1.length c1, .slice a2 l2.length c2, .slice a3 l3.length c3] 26)).heap.size = w.heap.size + 1 by simp] at this)
  have f1 : True := trivial
  by_cases hp : refP e ⟨m, i⟩
  · rw [ref_yes hp] at HRG
    have hp2 := hp
    unfold refP at hp2
    dsimp only at hp2
    have HP := Lib.hid (ref_yes hp)
    clear hp
    by_cases hm : 0 < m
    · have HX := Lib.hid (closed_far (e := e) (r := ⟨m, i⟩) HP.out (fun hh => by have h1 : m = 0 := hh.1; omega))
      clear hp2
      go_enter Try.func55, Try.ntmps55
      go_wp2_with (first | (have _f := f1; refine (HRG.out _).mono ?_; rintro e' w1 ⟨rfl, hb⟩; have HB1 := Lib.hid (bel_then HBW.out hb); have g0 := ((HG2.out.bel hb).cell 0).trans (show _ = some (.int .i64 m) from rfl); clear hb _f f1))
      go_ret
      rw [HX.out]
      exact ⟨rfl, HB1.out⟩
    · obtain rfl : m = 0 := by omega
      by_cases hi : i < 16
      · have HX := Lib.hid (closed_far (e := e) (r := ⟨0, i⟩) HP.out (fun hh => by have h1 : 16 ≤ i := hh.2; omega))
        clear hp2
        go_enter Try.func55, Try.ntmps55
        go_wp2_with (first | (have _f := f1; refine (HRG.out _).mono ?_; rintro e' w1 ⟨rfl, hb⟩; have HB1 := Lib.hid (bel_then HBW.out hb); have g0 := ((HG2.out.bel hb).cell 0).trans (show _ = some (.int .i64 0) from rfl); have g1 := ((HG2.out.bel hb).cell 1).trans (show _ = some (.int .i64 i) from rfl); clear hb _f f1))
        go_ret
        rw [HX.out]
        exact ⟨rfl, HB1.out⟩
      · have hl := HEL.out
        obtain ⟨j, hji⟩ : ∃ j : Nat, i - 16 = j := ⟨(i - 16).toNat, by omega⟩
        have hij : i = j + 16 := by omega
        have hj : j < l2.length := by omega
        obtain ⟨x, hx⟩ := get_lt hj
        have HX : Hid (closedB e ⟨0, i⟩ = (x.form != 4)) := Lib.hid (by have hp := HP.out; rw [hij] at hp ⊢; exact closed_own hp (HEG.out j x hx))
        have hc := rows_form HC.out hx
        obtain ⟨fm, hfm⟩ : ∃ fm, fm = x.form := ⟨_, rfl⟩
        rw [← hfm] at hc HX
        obtain ⟨rfl, hb0⟩ := HAT.out (by omega)
        have HCF : Hid (∀ W, Below w.heap.size w W → W.cell? ⟨b, o + j * 6, none⟩ = some (.int .i64 fm)) := Lib.hid (fun W k => (k.cell (p := ⟨b, o + j * 6, none⟩) hb0).trans hc)
        have hj2 : (j : Int) < l2.length := by omega
        clear hp2 hl hx hc hfm hb0 hij hj HEG
        go_enter Try.func55, Try.ntmps55
        go_wp2_with (first | (have _f := f1; refine (HRG.out _).mono ?_; rintro e' w1 ⟨rfl, hb⟩; have HB1 := Lib.hid (bel_then HBW.out hb); have g0 := ((HG2.out.bel hb).cell 0).trans (show _ = some (.int .i64 0) from rfl); have g1 := ((HG2.out.bel hb).cell 1).trans (show _ = some (.int .i64 i) from rfl); have g2 := ((HG1.out.bel hb).cell 2).trans (show _ = some (.slice (some ⟨b, o, none⟩) l2.length c2) from rfl); have g3 := HCF.out _ HB1.out; clear hb _f f1))
        go_ret
        rw [HX.out]
        refine ⟨ret_bool (b := fm != 4) ?_, HB1.out⟩
        rw [decide_eq_false (show ¬ i < 16 by omega)]; rfl
  · rw [ref_no hp] at HRG
    have HX := Lib.hid (closed_no (ref_no hp))
    clear hp
    go_enter Try.func55, Try.ntmps55
    go_wp2_with (first | (have _f := f1; refine (HRG.out _).mono ?_; rintro e' w1 ⟨rfl, hb⟩; have HB1 := Lib.hid (bel_then HBW.out hb); clear hb _f f1))
    go_ret
    rw [HX.out]
    exact ⟨rfl, HB1.out⟩

set_option maxRecDepth 100000 in
set_option maxHeartbeats 4000000 in
theorem rclosed_walk (f : Fc) (r : Rf) (w : World) (h : f.Rd w) (hr : r.ok) (hn2 : f.types.l.length ≤ 100000000000) :
    Calls Try.prog 65 #[f.val, r.val] w fun e' w' => e' = .returned (.bool (closedB f.d.env r)) ∧ Below w.heap.size w w' := by
  have i1 := h.imps.len
  obtain ⟨b, o, hat, hcell⟩ := h.types.at'
  have HRF : Hid (∀ W : World, Calls Try.prog 66 #[f.val, r.val] W fun e' w' => e' = .returned (.bool (refB f.d.env r)) ∧ Below W.heap.size W w') := Lib.hid (fun W => mayRef_walk f.name f.imps.a f.types.a f.objs.a f.imps.l.length f.types.l.length f.objs.l.length f.imps.c f.types.c f.objs.c r.mod r.idx W f.d.env (env_ni f) (env_len f) i1 (by omega) hr)
  have HEL := Lib.hid (env_len f)
  have HEG := Lib.hid (fun (j : Nat) (x : FT) (hx : f.types.l[j]? = some x) => env_get f hx)
  have HAT := Lib.hid hat
  have HC := Lib.hid hcell
  clear h hat hcell
  obtain ⟨e, he⟩ : ∃ e, e = f.d.env := ⟨_, rfl⟩
  rw [← he] at HRF HEL HEG ⊢
  clear he
  obtain ⟨nm, ⟨a1, c1, l1⟩, ⟨a2, c2, l2⟩, ⟨a3, c3, l3⟩⟩ := f
  obtain ⟨m, i⟩ := r
  obtain ⟨⟨m1, m2⟩, i1', i2⟩ := hr
  show Calls _ _ #[.agg #[.string nm, .slice a1 l1.length c1, .slice a2 l2.length c2, .slice a3 l3.length c3], .agg #[.int .i64 m, .int .i64 i]] w _
  have HRG : Hid (∀ W : World, Calls Try.prog 66 #[.agg #[.string nm, .slice a1 l1.length c1, .slice a2 l2.length c2, .slice a3 l3.length c3], .agg #[.int .i64 m, .int .i64 i]] W fun e' w' => e' = .returned (.bool (refB e ⟨m, i⟩)) ∧ Below W.heap.size W w') := HRF
  clear HRF
  dsimp only at i1 hn2 m1 m2 i1' i2 HAT HC HEL HEG
  have HBW := Lib.hid (bel2 w (.cells #[.string nm, .slice a1 l1.length c1, .slice a2 l2.length c2, .slice a3 l3.length c3] 26) (.cells #[.int .i64 m, .int .i64 i] 30))
  have HG1 := Lib.hid ((At.new w #[.string nm, .slice a1 l1.length c1, .slice a2 l2.length c2, .slice a3 l3.length c3] 26).old (.cells #[.int .i64 m, .int .i64 i] 30))
  have HG2 : Hid (At ((w.alloc (.cells #[.string nm, .slice a1 l1.length c1, .slice a2 l2.length c2, .slice a3 l3.length c3] 26)).alloc (.cells #[.int .i64 m, .int .i64 i] 30)) (w.heap.size + 1) #[.int .i64 m, .int .i64 i] 30) := Lib.hid (by have := At.new (w.alloc (.cells #[.string nm, .slice a1 l1.length c1, .slice a2 l2.length c2, .slice a3 l3.length c3] 26)) #[.int .i64 m, .int .i64 i] 30; rwa [show (w.alloc (.cells #[.string nm, .slice a1 l1.length c1, .slice a2 l2.length c2, .slice a3 l3.length c3] 26)).heap.size = w.heap.size + 1 by simp] at this)
  have f1 : True := trivial
  by_cases hp : refP e ⟨m, i⟩
  · rw [ref_yes hp] at HRG
    have hp2 := hp
    unfold refP at hp2
    dsimp only at hp2
    have HP := Lib.hid (ref_yes hp)
    clear hp
    by_cases hm : 0 < m
    · have HX := Lib.hid (closed_far (e := e) (r := ⟨m, i⟩) HP.out (fun hh => by have h1 : m = 0 := hh.1; omega))
      clear hp2
      go_enter Try.func65, Try.ntmps65
      go_wp2_with (first | (have _f := f1; refine (HRG.out _).mono ?_; rintro e' w1 ⟨rfl, hb⟩; have HB1 := Lib.hid (bel_then HBW.out hb); have g0 := ((HG2.out.bel hb).cell 0).trans (show _ = some (.int .i64 m) from rfl); clear hb _f f1))
      go_ret
      rw [HX.out]
      exact ⟨rfl, HB1.out⟩
    · obtain rfl : m = 0 := by omega
      by_cases hi : i < 16
      · have HX := Lib.hid (closed_far (e := e) (r := ⟨0, i⟩) HP.out (fun hh => by have h1 : 16 ≤ i := hh.2; omega))
        clear hp2
        go_enter Try.func65, Try.ntmps65
        go_wp2_with (first | (have _f := f1; refine (HRG.out _).mono ?_; rintro e' w1 ⟨rfl, hb⟩; have HB1 := Lib.hid (bel_then HBW.out hb); have g0 := ((HG2.out.bel hb).cell 0).trans (show _ = some (.int .i64 0) from rfl); have g1 := ((HG2.out.bel hb).cell 1).trans (show _ = some (.int .i64 i) from rfl); clear hb _f f1))
        go_ret
        rw [HX.out]
        exact ⟨rfl, HB1.out⟩
      · have hl := HEL.out
        obtain ⟨j, hji⟩ : ∃ j : Nat, i - 16 = j := ⟨(i - 16).toNat, by omega⟩
        have hij : i = j + 16 := by omega
        have hj : j < l2.length := by omega
        obtain ⟨x, hx⟩ := get_lt hj
        have HX : Hid (closedB e ⟨0, i⟩ = (x.form != 4)) := Lib.hid (by have hp := HP.out; rw [hij] at hp ⊢; exact closed_own hp (HEG.out j x hx))
        have hc := rows_form HC.out hx
        obtain ⟨fm, hfm⟩ : ∃ fm, fm = x.form := ⟨_, rfl⟩
        rw [← hfm] at hc HX
        obtain ⟨rfl, hb0⟩ := HAT.out (by omega)
        have HCF : Hid (∀ W, Below w.heap.size w W → W.cell? ⟨b, o + j * 6, none⟩ = some (.int .i64 fm)) := Lib.hid (fun W k => (k.cell (p := ⟨b, o + j * 6, none⟩) hb0).trans hc)
        have hj2 : (j : Int) < l2.length := by omega
        clear hp2 hl hx hc hfm hb0 hij hj HEG
        go_enter Try.func65, Try.ntmps65
        go_wp2_with (first | (have _f := f1; refine (HRG.out _).mono ?_; rintro e' w1 ⟨rfl, hb⟩; have HB1 := Lib.hid (bel_then HBW.out hb); have g0 := ((HG2.out.bel hb).cell 0).trans (show _ = some (.int .i64 0) from rfl); have g1 := ((HG2.out.bel hb).cell 1).trans (show _ = some (.int .i64 i) from rfl); have g2 := ((HG1.out.bel hb).cell 2).trans (show _ = some (.slice (some ⟨b, o, none⟩) l2.length c2) from rfl); have g3 := HCF.out _ HB1.out; clear hb _f f1))
        go_ret
        rw [HX.out]
        refine ⟨ret_bool (b := fm != 4) ?_, HB1.out⟩
        rw [decide_eq_false (show ¬ i < 16 by omega)]; rfl
  · rw [ref_no hp] at HRG
    have HX := Lib.hid (closed_no (ref_no hp))
    clear hp
    go_enter Try.func65, Try.ntmps65
    go_wp2_with (first | (have _f := f1; refine (HRG.out _).mono ?_; rintro e' w1 ⟨rfl, hb⟩; have HB1 := Lib.hid (bel_then HBW.out hb); clear hb _f f1))
    go_ret
    rw [HX.out]
    exact ⟨rfl, HB1.out⟩
end Go.Proofs.Ytfnibpkojhgflaa
