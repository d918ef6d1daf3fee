/- Contract: New. -/
import Derived.Test.YtdgiijidgjagbaaScanApi
import Derived.Outline
namespace Go.Proofs.Ytdgiijidgjagbaa
set_option linter.unusedVariables false
set_option linter.unusedSimpArgs false
open Go.RowKit

def allN : List (List UInt8) := kwB ++ preB
def Sc.fresh (src : List Int) : Sc := ⟨src, 0, ⟨0, 0, 0, 0, []⟩, allN, 0, 0⟩
def newS (src : List Int) : Sc := (Sc.fresh src).get

theorem clone_walk {w : World} {a : Option Addr} {c : Nat} {l : List Int} (h : RdI .u8 w a c l) (hl : l.length ≤ 65535) :
    Calls Try.prog 24 #[.slice a l.length c] w fun e w' => ∃ a' c', e = .returned (.slice a' l.length c') ∧ w'.ownsRow 0 5 1 (.slice a' l.length c') l.length (l.map (Value.int .u8)) ∧ (∀ b, (Value.slice a' l.length c').ownBlock = some b → w.heap.size ≤ b) ∧ Below w.heap.size w w' := by
  cases a with
  | none =>
    have h0 := (h.row.nil rfl).1
    have : l = [] := List.length_eq_zero_iff.1 h0
    subst this
    refine (Try.bytes_Clone_nil 0 c w).mono fun e w' ⟨he, hw⟩ => ⟨none, 0, he, ?_, fun b hb => by simp [Value.ownBlock] at hb, by rw [hw]; exact Below.refl _ _⟩
    rw [hw]; exact World.ownsRow_nil _ _ _ _
  | some ad =>
    refine (Try.bytes_Clone_at ad l.length c l w rfl (by omega) (fun i hi => ?_)).mono fun e w' ⟨v, he, ho, hn, hb⟩ => ?_
    · obtain ⟨b, o, h1, h2⟩ := h.cells
      have e := (h1 (by omega)).1
      simp only [Option.some.injEq] at e
      subst e
      rw [Addr.add_mid]; exact h2 i hi
    · obtain ⟨a', c', rfl, hr⟩ := RdC.own ho
      refine ⟨a', c', he, ?_, fun b hbb => (ho.lt b hbb).1, hb⟩
      obtain ⟨h1, h2⟩ := ho
      refine ⟨h1, ?_⟩
      rcases h2 with h2 | ⟨b, cap, cur, q1, q2, q3⟩
      · exact .inl h2
      · exact .inr ⟨b, cap, cur, q1, Nat.zero_le _, q3⟩

theorem own_lit {w : World} {g : Nat} {e : TypeId} {xs : List Value} (h : At w g xs.toArray e) (n : Nat) (hn : xs.length = n) (hm : n ≤ maxLen) : w.ownsRow 0 e 1 (.slice (some ⟨g, 0, none⟩) n n) n xs :=
  ⟨by omega, .inr ⟨g, n, xs.toArray, rfl, Nat.zero_le _, h, Nat.le_refl _, hm, by simp [hn], by simp [← hn]⟩⟩
theorem allN_len : allN.length = 57 := rfl
theorem allN_nodup : allN.Nodup := by decide
theorem allN_short : ∀ x ∈ allN, x.length ≤ 100000 := by decide

set_option maxRecDepth 20000 in
set_option maxHeartbeats 16000000 in
theorem new_walk {w : World} {a0 : Option Addr} {c0 : Nat} {src : List Int} (h : RdI .u8 w a0 c0 src) (hl : src.length ≤ 65535) :
    Calls Try.prog 12 #[.slice a0 src.length c0] w fun e w' => ∃ g, e = .returned (.pointer (some ⟨g, 0, none⟩)) ∧ Scn (· < w.heap.size) w' g (newS src) ∧ Below w.heap.size w w' := by
  have HR := Lib.hid h
  have HL := Lib.hid hl
  have i1 : (src.length : Int) ≤ 65535 := by omega
  have hmm := @run_makeMap Try.prog
  clear h hl
  go_enter Try.func12, Try.ntmps12
  have f1 : True := trivial
  have f2 : True := trivial
  have f3 : True := trivial
  have f4 : True := trivial
  have f5 : True := trivial
  go_wp2_with (first | (have _f := f1; refine (clone_walk HR.out HL.out).mono ?_; rintro e w1 ⟨a, c, rfl, ho, hfr, hb⟩; have HFR := Lib.hid hfr; have HO1 := Lib.hid ho; have HB1 := Lib.hid hb; clear ho hfr hb _f f1) | (have _f := f2; refine box_sep rfl 52 (.tmp 9) rfl (Sep.nil _) (v := .agg ((Sc.fresh src).cells (.slice a src.length c) (.slice none 0 0) (.map (some w1.heap.size)))) (cs := (Sc.fresh src).cells (.slice a src.length c) (.slice none 0 0) (.map (some w1.heap.size))) rfl rfl ?_; intro w3 S3 b3 s3; have HS3 := Lib.hid S3; have HB3 := Lib.hid b3; clear S3 b3 s3 _f f2) | (have _f := f3; refine (keywords_walk _).mono ?_; rintro e w4 ⟨rfl, hw4⟩; have HW4 := Lib.hid hw4; clear hw4 _f f3) | (have _f := f4; refine (predeclared_walk _).mono ?_; rintro e w5 ⟨rfl, hw5⟩; have HW5 := Lib.hid hw5; have HOK : Hid (w5.ownsRow 0 9 1 (.slice (some ⟨w3.heap.size, 0, none⟩) 29 29) 29 (kwB.map nameV)) := Lib.hid (own_lit (by rw [hw5, HW4.out]; exact (At.new _ _ _).old _) 29 rfl (by unfold maxLen; omega)); have HRP : Hid (RdC w5 (some ⟨w4.heap.size, 0, none⟩) 28 28 (preB.map nameV)) := Lib.hid (by rw [hw5]; exact rd_at (At.new w4 (preB.map nameV).toArray _) (by rw [List.size_toArray]; show 28 ≤ maxLen; unfold maxLen; omega)); clear hw5 _f f4) | (have _f := f5; at_builtin; refine append_at rfl (.tmp 11) (.tmp 12) et_str rfl 0 rfl HOK.out rfl HRP.out rfl (fun u hu => by obtain ⟨x, _, rfl⟩ := List.mem_map.1 hu; rfl) (by decide) (by decide) (Nat.zero_le _) ?_; intro v6 w6 own6 gr6 at6; obtain ⟨va, vc, rfl, rd6⟩ := RdC.own own6; have HO6 := Lib.hid own6; have HG6 := Lib.hid gr6; clear own6 gr6 at6 rd6 _f f5))
  have hb36 : Below w3.heap.size w3 w6 := by
    have k5 : Ke (· = w3.heap.size) w3 w5 := Ke.below _ (by rw [HW5.out, HW4.out]; exact bel2 _ _ _)
    have k6 : Ke (· = w3.heap.size) w5 w6 := (Ke.grown HG6.out).mono (fun i _ e => (Option.some.inj e).symm)
    exact (k5.trans k6).toBelow (fun i hi e => absurd e (Nat.ne_of_lt hi))
  have sz : (w1.alloc (.map #[] 0)).heap.size = w1.heap.size + 1 := by simp
  have hm1 := World.ownsMap_made (H := Unit) w1 Try.prog 9 (plainElem Try.prog 3)
  have hbits : Bits w6 (w1.heap.size + 1) ((Sc.fresh src).cells (.slice a src.length c) (.slice none 0 0) (.map (some w1.heap.size))) (.slice a src.length c) src (.slice none 0 0) [] w1.heap.size 0 (.map []) := by
    have h3 : Bits w3 (w1.heap.size + 1) ((Sc.fresh src).cells (.slice a src.length c) (.slice none 0 0) (.map (some w1.heap.size))) (.slice a src.length c) src (.slice none 0 0) [] w1.heap.size 0 (.map []) :=
      ⟨sz ▸ HS3.out.at 0 rfl, ownsRow_ke HO1.out (Ke.below Non (bel_then (bel1 w1 _) HB3.out)) (fun _ _ h => h), World.ownsRow_nil _ _ _ _, ownsMap_ke hm1 (Ke.below Non HB3.out) (fun h => h)⟩
    exact h3.bel hb36
  have HBW : Hid (Below w.heap.size w w6) := Lib.hid (bel_then HB1.out (bel_then (bel1 w1 _) (bel_then HB3.out hb36)))
  have HS6 := Lib.hid (show w1.heap.size + 1 < w6.heap.size by have := (HS3.out.at 0 rfl).lt; rw [sz] at this; exact Nat.lt_of_lt_of_le this hb36.size)
  have HB6 := Lib.hid hbits
  obtain ⟨_, h6⟩ := HO6.out
  rcases h6 with ⟨_, h6⟩ | ⟨vb, cap, cur, he6, _, hc6, hc7, hc8, hc9, hc10⟩
  · exact absurd h6 (by decide)
  simp only [Value.slice.injEq] at he6
  obtain ⟨rfl, _, rfl⟩ := he6
  have HV6 := Lib.hid (show At w6 vb cur 9 from hc6)
  have HVT := Lib.hid hc10
  clear hc6 hc7 hc8 hc9 hc10 hbits hb36 hm1 sz
  rw [show w1.heap.size + 1 = w1.heap.size + 1 from rfl] at HB6
  have HGW := Lib.hid (show w.heap.size ≤ w1.heap.size from HB1.out.size)
  have HVL := Lib.hid HV6.out.lt
  have nm8 : ¬ (w1.heap.size + 1 = w1.heap.size) := by omega
  go_loopg [15] 57 (fun gk idx wr => ∃ (j : Nat) (n' : Value), j ≤ 57 ∧ 57 - j ≤ gk ∧ idx = .int .i64 j ∧
    Bits wr (w1.heap.size + 1) ((Sc.fresh src).cells (.slice a src.length c) n' (.map (some w1.heap.size))) (.slice a src.length c) src n' ((allN.take j).map nameV) w1.heap.size j (idsD (allN.take j)) ∧
    (∀ b, n'.ownBlock = some b → w6.heap.size ≤ b) ∧ At wr vb cur 9 ∧ Below w.heap.size w wr ∧ w6.heap.size ≤ wr.heap.size)
  case atStart => exact ⟨0, .slice none 0 0, Nat.zero_le _, Nat.le_refl _, rfl, HB6.out, fun b hb => by simp [Value.ownBlock] at hb, HV6.out, HBW.out, Nat.le_refl _⟩
  case round =>
    obtain ⟨j, n', hj, hgk, rfl, hbits, hnb, hv, hbw, hsz⟩ := hrel
    have HB := Lib.hid hbits
    have HNB := Lib.hid hnb
    have HV := Lib.hid hv
    have HBWr := Lib.hid hbw
    have HSZ := Lib.hid hsz
    have HG := Lib.hid hgk
    have j1 : (0 : Int) ≤ j := by omega
    have j2 : (j : Int) ≤ 57 := by omega
    by_cases hjl : j < 57
    · have j3 : (j : Int) < 57 := by omega
      obtain ⟨x, hx⟩ : ∃ x, allN[j]? = some x := ⟨allN[j]'(by rw [allN_len]; exact hjl), List.getElem?_eq_getElem _⟩
      have HTK := Lib.hid (show allN.take (j + 1) = allN.take j ++ [x] by rw [List.take_add_one, hx]; rfl)
      have HTL := Lib.hid (show (allN.take j).length = j by rw [List.length_take, allN_len]; omega)
      have HXL := Lib.hid (allN_short x (List.mem_of_getElem? hx))
      obtain ⟨xb, hxb⟩ : ∃ xb : ByteArray, nameV x = .string xb := ⟨_, rfl⟩
      have HXB := Lib.hid hxb
      have cv : wr.cell? ⟨vb, j, none⟩ = some (.string xb) := by
        rw [hv.cell j, ← hxb]
        have h10 : (cur.toList.take (57 * 1))[j]? = some (nameV x) := by
          have e : (cur.toList.take ((29 + 28) * 1)) = kwB.map nameV ++ preB.map nameV := HVT.out
          rw [show 57 * 1 = (29 + 28) * 1 from rfl, e, ← List.map_append, List.getElem?_map, show kwB ++ preB = allN from rfl, hx]; rfl
        rw [List.getElem?_take, if_pos (by omega)] at h10
        simpa using h10
      obtain ⟨p, d, rfl, hrd⟩ := RdC.own hbits.nms
      rw [show ((allN.take j).map nameV).length = j by rw [List.length_map]; exact HTL.out] at HB hnb
      have HNB' := Lib.hid hnb
      clear hbits hnb hv hbw hsz hgk hj hx hxb hrd
      go_wp2
      refine wp_region_mixK (· = w1.heap.size) [([0, 1, 2, 3, 4, 5, 6, 7, 8, 9], 10)] [] (by kernel_rfl) (by kernel_rfl) (fun _ _ d _ _ h => by cases d <;> exact h) ?_
      intro wd hb
      have hB1 := HB.out.bel hb
      have HB1' := Lib.hid hB1
      have HK1 := Lib.hid (show Below wr.heap.size wr wd from hb)
      have l8 := hB1.at'.laterCell (G := (· = w1.heap.size)) nm8 8 (v := .map (some w1.heap.size)) rfl
      have l7 := hB1.at'.laterCell (G := (· = w1.heap.size)) nm8 7 (v := .slice p j d) rfl
      clear hB1 hb cv
      refine mixK_step ?_
      simp only [pickOps, nth]
      (repeat (go_big_quiet_step (fail)))
      refine wpQuiet_nil ?_
      clear l8 l7
      refine wpList_mapUpdate_own _ rfl (.tmp 22) (.tmp 23) (.tmp 28) 50 rfl 9 3 skeyed Try.underlying50 _ w1.heap.size _ _ rfl HB1'.out.ids (by unfold maxLen; omega) (.string xb) _ (.string x) rfl rfl (HXB.out ▸ skeyOf HXL.out) (lit64 j) [] (plainElem_int Try.underlying3 (nat_wf (by omega))) ?_
      intro w2 hm2 hg2
      have hB2 := HB1'.out.map hg2 hm2
      have HB2 := Lib.hid hB2
      have HG2 : Hid (Ke (· = w1.heap.size) wd w2) := Lib.hid (Ke.grownB hg2)
      have c7 : w2.cell? ⟨w1.heap.size + 1, 7, none⟩ = some (.slice p j d) := (hB2.at'.cell 7).trans rfl
      clear hm2 hg2 hB2
      go_wp2_with fail
      refine ⟨HG2.out, mixK_end ?_⟩
      simp only [pickOps, nth]
      refine wpQuiet_nil ?_
      have fA : True := trivial
      have fB : True := trivial
      have HO : Hid ((w2.alloc (.cells #[.string xb] 9)).ownsRow 0 9 1 (.slice p j d) j ((allN.take j).map nameV)) := Lib.hid (by have := (HB2.out.bel (bel1 w2 (.cells #[.string xb] 9))).nms; rwa [show ((allN.take j).map nameV).length = j by rw [List.length_map]; exact HTL.out] at this)
      have HRd := Lib.hid (rd_at (At.new w2 #[.string xb] 9) (show 1 ≤ maxLen by unfold maxLen; omega))
      have hle1 := Lib.hid (show (j + 1) * 16 ≤ 140737488355328 by omega)
      have hle2 := Lib.hid (show j + 1 ≤ 140737488355328 by omega)
      have hone := Lib.hid (show ∀ u ∈ (#[.string xb] : Array Value).toList, u.oneCell' = true by intro u hu; simp at hu; subst hu; rfl)
      go_wp2_with (first | (have _f := fA; at_builtin; refine append_at rfl (.tmp 33) (.tmp 35) et_str rfl 0 rfl HO.out rfl HRd.out rfl hone.out hle1.out hle2.out (Nat.zero_le _) ?_; intro v4 w4 own4 gr4 at4; obtain ⟨a4, c4, rfl, rd4⟩ := RdC.own own4; have HO4 := Lib.hid own4; have HG4 := Lib.hid gr4; have HAt4 := Lib.hid at4; clear own4 gr4 rd4 at4 _f fA) | (have _f := fB; refine store1_sep rfl 40 (.tmp 38) (.tmp 36) rfl (Sep.one ((HB2.out.bel (bel1 w2 (.cells #[.string xb] 9))).row (ns' := (allN.take j).map nameV ++ (#[.string xb] : Array Value).toList) HG4.out (by rw [show ((allN.take j).map nameV ++ (#[.string xb] : Array Value).toList).length = j + 1 by rw [List.length_append, List.length_map, HTL.out]; rfl]; exact HO4.out)).at') 0 rfl rfl rfl rfl (by kernel_rfl) rfl ?_; intro w5 S5 k5 s5; have HA5 := Lib.hid (S5.at 0 rfl); have HK5 := Lib.hid k5; clear S5 k5 s5 _f fB c7))
      have hb4 := (HB2.out.bel (bel1 w2 (.cells #[.string xb] 9))).row (ns' := (allN.take j).map nameV ++ (#[.string xb] : Array Value).toList) HG4.out (by rw [show ((allN.take j).map nameV ++ (#[.string xb] : Array Value).toList).length = j + 1 by rw [List.length_append, List.length_map, HTL.out]; rfl]; exact HO4.out)
      have hb5 := hb4.put HK5.out HA5.out
      have e5 : (allN.take j).map nameV ++ (#[.string xb] : Array Value).toList = (allN.take (j + 1)).map nameV := by rw [HTK.out, List.map_append, List.map_cons, HXB.out]; rfl
      rw [e5] at hb5
      rw [show (idsD (allN.take j)).put (.string x) (lit64 j) = idsD (allN.take (j + 1)) by rw [HTK.out, idsD_snoc, HTL.out]] at hb5
      have hs2 : wr.heap.size ≤ w2.heap.size := Nat.le_trans HK1.out.size HG2.out.size
      have hs2' : w6.heap.size ≤ w2.heap.size := Nat.le_trans HSZ.out hs2
      have HB5 := Lib.hid hb5
      -- what lies below the loop's beginning, and V
      have kA : Ke (fun i => i = w1.heap.size ∨ i = w1.heap.size + 1 ∨ w6.heap.size ≤ i) wr w5 := by
        have k1 : Ke (fun i => i = w1.heap.size ∨ i = w1.heap.size + 1 ∨ w6.heap.size ≤ i) wr wd := Ke.below _ HK1.out
        have k2 : Ke (fun i => i = w1.heap.size ∨ i = w1.heap.size + 1 ∨ w6.heap.size ≤ i) wd w2 := HG2.out.mono (fun i _ e => .inl e)
        have k3 : Ke (fun i => i = w1.heap.size ∨ i = w1.heap.size + 1 ∨ w6.heap.size ≤ i) w2 (w2.alloc (.cells #[.string xb] 9)) := Ke.below _ (bel1 _ _)
        have k4 : Ke (fun i => i = w1.heap.size ∨ i = w1.heap.size + 1 ∨ w6.heap.size ≤ i) (w2.alloc (.cells #[.string xb] 9)) w4 := (Ke.grown (show (w2.alloc (.cells #[.string xb] 9)).grownBy w4 (Value.slice p j d).ownBlock from HG4.out)).mono (fun i _ e => .inr (.inr (HNB'.out i e)))
        have k5 : Ke (fun i => i = w1.heap.size ∨ i = w1.heap.size + 1 ∨ w6.heap.size ≤ i) w4 w5 := HK5.out.mono (fun i _ e => .inr (.inl e))
        exact (((k1.trans k2).trans k3).trans k4).trans k5
      have hv5 : At w5 vb cur 9 := HV.out.ke kA (fun e => by
        have := HVL.out
        rcases e with e | e | e
        · subst e; exact ownsMap_at HB.out.ids HV.out rfl
        · subst e; have h1 := HV.out; have h2 := HB.out.at'; unfold At at h1 h2; rw [h1] at h2; simp at h2
        · omega)
      have hbw5 : Below w.heap.size w w5 := by
        have kw : Ke (fun i => w.heap.size ≤ i) w w5 := (Ke.below (fun i => w.heap.size ≤ i) HBWr.out).trans (kA.mono (fun i _ e => by have := HGW.out; have := HBW.out.size; rcases e with e | e | e <;> omega))
        exact kw.toBelow (fun i hi e => absurd e (Nat.not_le_of_lt hi))
      have HV5 := Lib.hid hv5
      have HBW5 := Lib.hid hbw5
      have HS5 := Lib.hid (Nat.le_trans HSZ.out kA.size)
      clear hb4 hb5 kA hv5 hbw5 e5 hs2
      go_wp2
      go_roundg (gk - 1)
      case measure => have := HG.out; omega
      case rel =>
        refine ⟨j + 1, .slice a4 (j + 1) c4, hjl, by have := HG.out; omega, by go_num, HB5.out, fun b hb => ?_, HV5.out, HBW5.out, HS5.out⟩
        rcases HAt4.out with h | h
        · have h' : (Value.slice a4 (j + 1) c4).ownBlock = (Value.slice p j d).ownBlock := h
          exact HNB'.out b (h' ▸ hb)
        · rw [h] at hb
          have h2 : (w2.alloc (.cells #[.string xb] 9)).heap.size = b := Option.some.inj hb
          simp at h2
          omega
    · have hj57 : j = 57 := by omega
      subst hj57
      have hok : Sc.Ok (Sc.fresh src) := by
        refine ⟨Nat.zero_le _, HL.out, fun x hx => bd_u8 (HR.out.bd x hx), by show (57 : Nat) ≤ 700; omega, allN_nodup, allN_short⟩
      have hX : ScnX (· < w.heap.size) wr (w1.heap.size + 1) (Sc.fresh src) a c n' w1.heap.size := by
        have hb := hbits
        rw [show allN.take 57 = allN from rfl] at hb
        refine ⟨hb.at', hb.src, ?_, hb.ids, fun h => ?_, fun h => ?_, fun b hbb h => ?_, fun b hbb h => absurd (show b < w.heap.size from h) (Nat.not_lt.2 (HFR.out b hbb)), hok⟩
        · have := hb.nms
          rw [List.length_map] at this
          exact this
        · have h' : w1.heap.size + 1 < w.heap.size := h
          have := HGW.out; omega
        · have h' : w1.heap.size < w.heap.size := h
          have := HGW.out; omega
        · have h' : b < w.heap.size := h
          have := hnb b hbb; have := HBW.out.size; omega
      have HX := Lib.hid hX
      have HFr := Lib.hid (show ∀ k, (· < w.heap.size) k → k < wr.heap.size from fun k hk => Nat.lt_of_lt_of_le hk hbw.size)
      have HBWr := Lib.hid hbw
      clear hX hok hbits hnb hv hbw hsz hgk
      go_wp2_with (refine (get_walk HX.out HFr.out).mono ?_; rintro e w7 ⟨rfl, h7, k7⟩; have HE7 := Lib.hid h7; have HK7 := Lib.hid k7; clear h7 k7)
      go_ret
      obtain ⟨n9, h9⟩ := HE7.out
      exact ⟨w1.heap.size + 1, rfl, ⟨_, _, _, _, h9⟩, ((Ke.below (Off (· < w.heap.size)) HBWr.out).trans HK7.out).toBelow (fun i hi e => e hi)⟩

theorem ScnX.weak {F F' : Nat → Prop} {w : World} {g : Nat} {s : Sc} {a : Option Addr} {c : Nat} {n : Value} {m : Nat} (h : ScnX F' w g s a c n m) (hs : ∀ k, F k → F' k) : ScnX F w g s a c n m :=
  ⟨h.at', h.src, h.nms, h.ids, fun e => h.fg (hs _ e), fun e => h.fm (hs _ e), fun b hb e => h.fn b hb (hs _ e), fun b hb e => h.fa b hb (hs _ e), h.ok⟩
/-- what is made beside the scanner is none of it. -/
theorem ScnX.more {F : Nat → Prop} {w w' : World} {g : Nat} {s : Sc} {a : Option Addr} {c : Nat} {n : Value} {m : Nat} (h : ScnX F w g s a c n m) (k : Below w.heap.size w w') : ScnX (fun i => F i ∨ (w.heap.size ≤ i ∧ i < w'.heap.size)) w' g s a c n m := by
  have h' := h.bel k
  refine ⟨h'.at', h'.src, h'.nms, h'.ids, fun e => ?_, fun e => ?_, fun b hb e => ?_, fun b hb e => ?_, h.ok⟩
  · rcases e with e | e
    · exact h.fg e
    · have := h.at'.lt; omega
  · rcases e with e | e
    · exact h.fm e
    · have := h.ids.lt; omega
  · rcases e with e | e
    · exact h.fn b hb e
    · have := (h.nms.lt b hb).2; omega
  · rcases e with e | e
    · exact h.fa b hb e
    · have := (h.src.lt b hb).2; omega

end Go.Proofs.Ytdgiijidgjagbaa
