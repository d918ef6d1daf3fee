/- Contract: SymfileOpens. Printed by bin/gen_symopens.py. -/
import Derived.Test.YtfnibpkojhgflaaFaceOpens
import Derived.Test.YtfnibpkojhgflaaFaceMuch
namespace Go.Proofs.Ytfnibpkojhgflaa
set_option linter.unusedVariables false
set_option linter.unusedSimpArgs false
open Go.RowKit

theorem type_base {e : Env} {t : TD} (h : mayTypeB e t = true) : closedB e t.base = true ∨ noRef t.base = true := by
  unfold mayTypeB at h
  split at h
  · simp only [Bool.and_eq_true, decide_eq_true_eq] at h; exact .inr h.2.1.1.2
  · split at h
    · simp only [Bool.and_eq_true] at h; exact .inl h.2
    · split at h
      · simp only [Bool.and_eq_true] at h; exact .inl h.2
      · cases h
theorem field_base {e : Env} {y : Fld} (h : fieldOk e y = true) : closedB e y.base = true := by
  unfold fieldOk at h; simp only [Bool.and_eq_true] at h; exact h.2
theorem const_base {e : Env} {o : ODD} (h : constOk o = true) : closedB e o.base = true := by
  unfold constOk at h
  have h := of_decide_eq_true h
  refine closed_far (ref_yes ?_) (fun hh => by have := hh.2; omega)
  unfold refP
  omega
theorem obj_base {e : Env} {o : ODD} (h : mayObjB e o = true) : closedB e o.base = true ∨ noRef o.base = true := by
  unfold mayObjB at h
  rw [Bool.and_eq_true] at h
  have h := h.2
  split at h
  · simp only [Bool.and_eq_true, Bool.or_eq_true] at h; exact h.2.symm
  · rw [Bool.and_eq_true] at h
    have h := h.2
    split at h
    · exact .inl (const_base h)
    · split at h
      · rw [Bool.and_eq_true] at h; exact .inl h.2
      · split at h
        · rw [Bool.and_eq_true] at h; exact .inl h.2
        · cases h

set_option maxRecDepth 100000 in
set_option maxHeartbeats 8000000 in
theorem opens_walk (f : Fc) (w : World) (h : f.Rd w) :
    Calls Try.prog 3 #[f.val] w fun e' w' => e' = .returned (.bool true) ∧ Below w.heap.size w w' := by
  have i2 := h.types.len
  have i3 := h.objs.len
  have HMU : Hid (∀ W, Below w.heap.size w W → Calls Try.prog 9 #[f.val] W fun e' w' => e' = .returned (.bool (muchF f.d)) ∧ Below W.heap.size W w') := Lib.hid (fun W k => muchF_walk f W (h.bel k))
  have HMA : Hid (∀ W, Below w.heap.size w W → Calls Try.prog 10 #[f.val] W fun e' w' => e' = .returned (.bool (mayFace f.d)) ∧ Below W.heap.size W w') := Lib.hid (fun W k => may_walk f W (h.bel k))
  have HOP : Hid (mayFace f.d = true → ∀ (W : World) (r : Rf), Below w.heap.size w W → At W w.heap.size f.cells 26 → (closedB f.d.env r = true ∨ noRef r = true) → Calls Try.prog 12 #[r.val, .pointer (some ⟨w.heap.size, 0, none⟩)] W fun e' w' => e' = .returned (.bool false) ∧ Below W.heap.size W w') := Lib.hid (fun hm W r k hA hr => openfn_walk f r _ W (h.bel k) hA (by have := (small_of hm).ntypes; omega) hr)
  have HPT : Hid (mayFace f.d = true → (∀ x ∈ f.types.l, (closedB f.d.env x.base = true ∨ noRef x.base = true) ∧ ∀ y ∈ x.fields.l, closedB f.d.env y.base = true) ∧ ∀ x ∈ f.objs.l, closedB f.d.env x.base = true ∨ noRef x.base = true) := Lib.hid (fun hm => by
    obtain ⟨_, _, h4, h5⟩ := mf_split hm
    exact ⟨fun x hx => ⟨type_base (h4 x.d (List.mem_map_of_mem hx)), fun y hy => field_base ((type_fields (h4 x.d (List.mem_map_of_mem hx))).2 y hy)⟩, fun x hx => obj_base (objsOk_all _ _ _ h5 x.d (List.mem_map_of_mem hx))⟩)
  obtain ⟨b2, o2, hat2, hcell2⟩ := h.types.at'
  obtain ⟨b3, o3, hat3, hcell3⟩ := h.objs.at'
  have HAT2 := Lib.hid hat2
  have HAT3 := Lib.hid hat3
  have HC2 := Lib.hid hcell2
  have HC3 := Lib.hid hcell3
  have HOK2 := Lib.hid h.types.all
  clear h hat2 hat3 hcell2 hcell3
  obtain ⟨M, hM⟩ : ∃ M, M = mayFace f.d := ⟨_, rfl⟩
  obtain ⟨U, hU⟩ : ∃ U, U = muchF f.d := ⟨_, rfl⟩
  obtain ⟨E, hE⟩ : ∃ E, E = f.d.env := ⟨_, rfl⟩
  rw [← hM] at HMA HOP HPT
  rw [← hU] at HMU
  rw [← hE] at HOP HPT
  clear hM hU hE
  obtain ⟨nm, ⟨a1, c1, l1⟩, ⟨a2, c2, l2⟩, ⟨a3, c3, l3⟩⟩ := f
  dsimp only at i2 i3 HAT2 HAT3 HC2 HC3 HOK2 HPT
  replace HMU : Hid (∀ W, Below w.heap.size w W → Calls Try.prog 9 #[.agg #[.string nm, .slice a1 l1.length c1, .slice a2 l2.length c2, .slice a3 l3.length c3]] W fun e' w' => e' = .returned (.bool U) ∧ Below W.heap.size W w') := HMU
  replace HMA : Hid (∀ W, Below w.heap.size w W → Calls Try.prog 10 #[.agg #[.string nm, .slice a1 l1.length c1, .slice a2 l2.length c2, .slice a3 l3.length c3]] W fun e' w' => e' = .returned (.bool M) ∧ Below W.heap.size W w') := HMA
  replace HOP : Hid (M = true → ∀ (W : World) (r : Rf), Below w.heap.size w W → At W w.heap.size #[.string nm, .slice a1 l1.length c1, .slice a2 l2.length c2, .slice a3 l3.length c3] 26 → (closedB E r = true ∨ noRef r = true) → Calls Try.prog 12 #[.agg #[.int .i64 r.mod, .int .i64 r.idx], .pointer (some ⟨w.heap.size, 0, none⟩)] W fun e' w' => e' = .returned (.bool false) ∧ Below W.heap.size W w') := HOP
  show Calls _ _ #[.agg #[.string nm, .slice a1 l1.length c1, .slice a2 l2.length c2, .slice a3 l3.length c3]] w _
  have HA0 := Lib.hid (At.new w #[.string nm, .slice a1 l1.length c1, .slice a2 l2.length c2, .slice a3 l3.length c3] 26)
  have HB0 := Lib.hid (bel1 w (.cells #[.string nm, .slice a1 l1.length c1, .slice a2 l2.length c2, .slice a3 l3.length c3] 26))
  have f1 : True := trivial
  have f2 : True := trivial
  have f3 : True := trivial
  have f4 : True := trivial
  have f5 : True := trivial
  have f6 : True := trivial
  have f9 : True := trivial
  go_enter Try.func3, Try.ntmps3
  cases U
  · cases M
    · go_wp2_with (first | (have _f := f2; refine (HMU.out _ HB0.out).mono ?_; rintro e' w1 ⟨rfl, hb⟩; have HB1 := Lib.hid (bel_then HB0.out hb); have HA1 := Lib.hid (HA0.out.bel hb); clear hb _f f2) | (have _f := f3; refine guard_off (by kernel_rfl) ?_; refine wpList_load_mid rfl 26 (.tmp 1) rfl w.heap.size 0 rfl [.string nm, .slice a1 l1.length c1, .slice a2 l2.length c2, .slice a3 l3.length c3] _ (fun q y hy => (HA1.out.cell (0 + q)).trans (by match q, hy with | 0, hy => exact hy | 1, hy => exact hy | 2, hy => exact hy | 3, hy => exact hy)) Try.underlying26 rfl (by kernel_rfl) ?_; clear _f f3) | (have _f := f4; refine (HMA.out _ HB1.out).mono ?_; rintro e' w2 ⟨rfl, hb⟩; have HB2 := Lib.hid (bel_then HB1.out hb); have HA2 := Lib.hid (HA1.out.bel hb); clear hb _f f4) | (have _f := f9; refine (known_walk _).mono ?_; rintro e' w9 ⟨rfl, hb⟩; have HB9 := Lib.hid (bel_then HB2.out hb); clear hb _f f9))
      go_ret
      exact ⟨rfl, HB9.out⟩
    · have HOQ := Lib.hid (HOP.out rfl)
      clear HOP
      replace HPT := Lib.hid (HPT.out rfl)
      go_wp2_with (first | (have _f := f2; refine (HMU.out _ HB0.out).mono ?_; rintro e' w1 ⟨rfl, hb⟩; have HB1 := Lib.hid (bel_then HB0.out hb); have HA1 := Lib.hid (HA0.out.bel hb); clear hb _f f2) | (have _f := f3; refine guard_off (by kernel_rfl) ?_; refine wpList_load_mid rfl 26 (.tmp 1) rfl w.heap.size 0 rfl [.string nm, .slice a1 l1.length c1, .slice a2 l2.length c2, .slice a3 l3.length c3] _ (fun q y hy => (HA1.out.cell (0 + q)).trans (by match q, hy with | 0, hy => exact hy | 1, hy => exact hy | 2, hy => exact hy | 3, hy => exact hy)) Try.underlying26 rfl (by kernel_rfl) ?_; clear _f f3) | (have _f := f4; refine (HMA.out _ HB1.out).mono ?_; rintro e' w2 ⟨rfl, hb⟩; have HB2 := Lib.hid (bel_then HB1.out hb); have HA2 := Lib.hid (HA1.out.bel hb); clear hb _f f4))
      go_loopw [4] (fun v wr => ∃ i : Nat, v = .int .i64 i ∧ i ≤ l2.length ∧ Below w.heap.size w wr ∧ At wr w.heap.size #[.string nm, .slice a1 l1.length c1, .slice a2 l2.length c2, .slice a3 l3.length c3] 26) (fun v _ => l2.length - (intOf v).toNat)
      case atStart => exact ⟨0, rfl, Nat.zero_le _, HB2.out, HA2.out⟩
      case round =>
        obtain ⟨i, rfl, hi, hbr, har⟩ := hrel
        have HBr := Lib.hid hbr
        have HAr := Lib.hid har
        have y2 := (HAr.out.cell 2).trans (show _ = some (.slice a2 l2.length c2) from rfl)
        clear hbr har
        by_cases hlt : i < l2.length
        · obtain ⟨⟨fo, le, si, ⟨bm, bi⟩, ⟨fa, fcc, fl⟩⟩, hx⟩ := get_lt hlt
          have HTB := Lib.hid ((HPT.out.1 _ (List.mem_of_getElem? hx)).1)
          have HFB := Lib.hid ((HPT.out.1 _ (List.mem_of_getElem? hx)).2)
          have hrf := (HOK2.out _ (List.mem_of_getElem? hx)).2.2.2.2
          dsimp only at HTB HFB hrf
          obtain ⟨rfl, hb⟩ := HAT2.out (by omega)
          have HCO : Hid (∀ (W : World), Below w.heap.size w W → ∀ (q : Nat) (y : Value), ([.int .i64 fo, .int .i64 le, .int .i64 si, .int .i64 bm, .int .i64 bi, .slice fa fl.length fcc] : List Value)[q]? = some y → W.cell? ⟨b2, o2 + i * 6 + q, none⟩ = some y) := Lib.hid (fun W k q y hy => (k.cell (p := ⟨b2, o2 + i * 6 + q, none⟩) hb).trans (HC2.out i _ hx q y hy))
          have HBS : Hid (∀ (q : Nat) (y : Value), ([.int .i64 bm, .int .i64 bi] : List Value)[q]? = some y → wr.cell? ⟨b2, o2 + i * 6 + 3 + q, none⟩ = some y) := Lib.hid (fun q y hy => by rw [Nat.add_assoc]; exact HCO.out _ HBr.out (3 + q) y (by match q, hy with | 0, hy => exact hy | 1, hy => exact hy))
          have hfl := hrf.len
          obtain ⟨bF, oF, hatF, hcellF⟩ := hrf.at'
          have HATF := Lib.hid hatF
          have HCF := Lib.hid hcellF
          dsimp only at HATF HCF hfl
          have HLT := Lib.hid hlt
          clear hrf hatF hcellF hx hb
          have f1 : True := trivial
          have f2 : True := trivial
          go_wp2_with (first | (have _f := f1; refine wpList_load_mid rfl 30 (.tmp 28) rfl b2 (o2 + i * 6 + 3) rfl [.int .i64 bm, .int .i64 bi] _ HBS.out Try.underlying30 rfl (by kernel_rfl) ?_; clear _f f1) | (have _f := f2; refine (HOQ.out _ ⟨bm, bi⟩ HBr.out HAr.out HTB.out).mono ?_; rintro e' w3 ⟨rfl, hb⟩; have HB3 := Lib.hid (bel_then HBr.out hb); have HA3 := Lib.hid (HAr.out.bel hb); clear hb y2 _f f2))
          go_loopw [5] (fun v wr => ∃ j : Nat, v = .int .i64 j ∧ j ≤ fl.length ∧ Below w.heap.size w wr ∧ At wr w.heap.size #[.string nm, .slice a1 l1.length c1, .slice (some ⟨b2, o2, none⟩) l2.length c2, .slice a3 l3.length c3] 26) (fun v _ => fl.length - (intOf v).toNat)
          case atStart => exact ⟨0, rfl, Nat.zero_le _, HB3.out, HA3.out⟩
          case round =>
            obtain ⟨j, rfl, hj, hbr, har⟩ := hrel
            clear HBr HAr HBS HTB
            have HBr := Lib.hid hbr
            have HAr := Lib.hid har
            have y2 := (HAr.out.cell 2).trans (show _ = some (.slice (some ⟨b2, o2, none⟩) l2.length c2) from rfl)
            have y5 := HCO.out _ HBr.out 5 _ rfl
            have hlt := HLT.out
            clear hbr har
            by_cases hlt2 : j < fl.length
            · obtain ⟨⟨xn, xo, ⟨bm, bi⟩⟩, hx⟩ := get_lt hlt2
              have HTB : Hid (closedB E ⟨bm, bi⟩ = true ∨ noRef ⟨bm, bi⟩ = true) := Lib.hid (.inl (HFB.out _ (List.mem_of_getElem? hx)))
              obtain ⟨rfl, hb⟩ := HATF.out (by omega)
              have HBS : Hid (∀ (q : Nat) (y : Value), ([.int .i64 bm, .int .i64 bi] : List Value)[q]? = some y → wr.cell? ⟨bF, oF + j * 4 + 2 + q, none⟩ = some y) := Lib.hid (fun q y hy => by rw [Nat.add_assoc]; exact (HBr.out.cell (p := ⟨bF, oF + j * 4 + (2 + q), none⟩) hb).trans (HCF.out j _ hx (2 + q) y (by match q, hy with | 0, hy => exact hy | 1, hy => exact hy)))
              clear hx hb
              have f1 : True := trivial
              have f2 : True := trivial
              go_wp2_with (first | (have _f := f1; refine wpList_load_mid rfl 30 (.tmp 51) rfl bF (oF + j * 4 + 2) rfl [.int .i64 bm, .int .i64 bi] _ HBS.out Try.underlying30 rfl (by kernel_rfl) ?_; clear _f f1) | (have _f := f2; refine (HOQ.out _ ⟨bm, bi⟩ HBr.out HAr.out HTB.out).mono ?_; rintro e' w4 ⟨rfl, hb⟩; have HB4 := Lib.hid (bel_then HBr.out hb); have HA4 := Lib.hid (HAr.out.bel hb); clear hb y2 y5 _f f2))
              go_roundw
              case rel => exact ⟨j + 1, by go_num, by omega, HB4.out, HA4.out⟩
              case measure => simp [intOf]; omega
            · go_wp2_with (fail)
              go_roundw
              case rel => exact ⟨i + 1, by go_num, by omega, HBr.out, HAr.out⟩
              case measure => simp [intOf]; omega
        · go_wp2_with (fail)
          go_loopw [6] (fun v wr => ∃ i : Nat, v = .int .i64 i ∧ i ≤ l3.length ∧ Below w.heap.size w wr ∧ At wr w.heap.size #[.string nm, .slice a1 l1.length c1, .slice a2 l2.length c2, .slice a3 l3.length c3] 26) (fun v _ => l3.length - (intOf v).toNat)
          case atStart => exact ⟨0, rfl, Nat.zero_le _, HBr.out, HAr.out⟩
          case round =>
            obtain ⟨j, rfl, hj, hbr, har⟩ := hrel
            clear HBr HAr y2
            have HBr := Lib.hid hbr
            have HAr := Lib.hid har
            have y3 := (HAr.out.cell 3).trans (show _ = some (.slice a3 l3.length c3) from rfl)
            clear hbr har
            by_cases hlt3 : j < l3.length
            · obtain ⟨⟨cl, xn, ⟨bm, bi⟩, vl, ⟨pa, pcc, pl⟩⟩, hx⟩ := get_lt hlt3
              have HTB := Lib.hid (HPT.out.2 _ (List.mem_of_getElem? hx))
              dsimp only at HTB
              obtain ⟨rfl, hb⟩ := HAT3.out (by omega)
              have HBS : Hid (∀ (q : Nat) (y : Value), ([.int .i64 bm, .int .i64 bi] : List Value)[q]? = some y → wr.cell? ⟨b3, o3 + j * 6 + 2 + q, none⟩ = some y) := Lib.hid (fun q y hy => by rw [Nat.add_assoc]; exact (HBr.out.cell (p := ⟨b3, o3 + j * 6 + (2 + q), none⟩) hb).trans (HC3.out j _ hx (2 + q) y (by match q, hy with | 0, hy => exact hy | 1, hy => exact hy)))
              clear hx hb
              have f1 : True := trivial
              have f2 : True := trivial
              go_wp2_with (first | (have _f := f1; refine wpList_load_mid rfl 30 (.tmp 66) rfl b3 (o3 + j * 6 + 2) rfl [.int .i64 bm, .int .i64 bi] _ HBS.out Try.underlying30 rfl (by kernel_rfl) ?_; clear _f f1) | (have _f := f2; refine (HOQ.out _ ⟨bm, bi⟩ HBr.out HAr.out HTB.out).mono ?_; rintro e' w4 ⟨rfl, hb⟩; have HB4 := Lib.hid (bel_then HBr.out hb); have HA4 := Lib.hid (HAr.out.bel hb); clear hb y3 _f f2))
              go_roundw
              case rel => exact ⟨j + 1, by go_num, by omega, HB4.out, HA4.out⟩
              case measure => simp [intOf]; omega
            · go_wp2_with (first | (have _f := f9; refine (known_walk _).mono ?_; rintro e' w9 ⟨rfl, hb⟩; have HB9 := Lib.hid (bel_then HBr.out hb); clear hb _f f9))
              go_ret
              exact ⟨rfl, HB9.out⟩
  · go_wp2_with (first | (have _f := f2; refine (HMU.out _ HB0.out).mono ?_; rintro e' w1 ⟨rfl, hb⟩; have HB1 := Lib.hid (bel_then HB0.out hb); have HA1 := Lib.hid (HA0.out.bel hb); clear hb _f f2) | (have _f := f9; refine (known_walk _).mono ?_; rintro e' w9 ⟨rfl, hb⟩; have HB9 := Lib.hid (bel_then HB1.out hb); clear hb _f f9))
    go_ret
    exact ⟨rfl, HB9.out⟩
end Go.Proofs.Ytfnibpkojhgflaa
