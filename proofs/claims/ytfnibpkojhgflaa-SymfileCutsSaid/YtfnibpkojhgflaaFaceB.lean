/- Several texts in one: FaceConcat, FaceAdd, FaceBytes. -/
import Derived.Test.YtfnibpkojhgflaaObjA
import Derived.Test.YtfnibpkojhgflaaFaceA
import Derived.Test.YtfnibpkojhgflaaFaceBytes0
import Derived.Test.YtfnibpkojhgflaaLibC
import Derived.Test.YtfnibpkojhgflaaLibA
import Derived.Lib.AppendZeros
import Derived.BigQuiet
import Derived.Test.YtfnibpkojhgflaaFaceMay0
namespace Go.Proofs.Ytfnibpkojhgflaa

section
set_option linter.unusedVariables false
set_option linter.unusedSimpArgs false
open Go.RowKit

theorem put_walk (n : Int) (w : World) (h : 0 ≤ n ∧ n < 4294967296) :
    Calls Try.prog 50 #[.int .u32 n] w fun e w' => ∃ a c, e = .returned (.slice a 4 c) ∧ RdI .u8 w' a c (wordB n) ∧ Below w.heap.size w w' := by
  obtain ⟨h1, h2⟩ := h
  go_enter Try.func50, Try.ntmps50
  go_wp2
  go_ret
  have hr := rd_lit8 w (wordB n) (wordB_byte n) (show 4 ≤ 1000 by decide)
  have e : wordB n = [n % 256, n / 256 % 256, n / 65536 % 256, n / 16777216] := by unfold wordB; rw [show n / 16777216 % 256 = n / 16777216 by omega]
  rw [e] at hr ⊢
  exact ⟨_, _, rfl, hr, bel1 _ _⟩

set_option maxHeartbeats 1000000 in
theorem name8_walk (s : ByteArray) (w : World) (hs : s.size ≤ 1000000) :
    Calls Try.prog 49 #[.string s] w fun e w' => ∃ a c, e = .returned (.slice a (nameB s).length c) ∧ RdI .u8 w' a c (nameB s) ∧ Below w.heap.size w w' := by
  have h1 : (s.size : Int) ≤ 1000000 := by omega
  have HB1 := Lib.hid (show 1 + s.size ≤ 140737488355328 by omega)
  have HB2 := Lib.hid (show 1 + s.size ≤ maxLen by unfold maxLen; omega)
  have HOW := Lib.hid (own_lit8 w [(s.size : Int) % 256] (show 1 ≤ 1000 by decide) (Nat.le_refl _))
  have HBL := Lib.hid (bel1 w (.cells #[.int .u8 ((s.size : Int) % 256)] 5))
  clear hs
  obtain ⟨ti, hti, hti0, hti1, hti2⟩ := info_parts info_u8
  have HT := Lib.hid (And.intro hti (And.intro hti0 (And.intro hti1 hti2)))
  clear hti hti0 hti1 hti2
  have f1 : True := trivial
  go_enter Try.func49, Try.ntmps49
  go_wp2_with (have _f := f1; refine Lib.wpList_append_own_string _ rfl (.tmp 6) (.tmp 7) 46 9 rfl w.heap.size 5 ti Try.underlying46 Try.underlying9 HT.out.1 HT.out.2.1 HT.out.2.2.1 HT.out.2.2.2 (.slice (some ⟨w.heap.size, 0, none⟩) 1 1) 1 _ rfl HOW.out s rfl HB2.out HB1.out HBL.out.size ?_; intro v' w' own' gr' _; have HB := Lib.hid (bel_own HBL.out HOW.out gr'); have HO := Lib.hid own'; clear own' gr' _f f1)
  go_ret
  have e : ([(s.size : Int) % 256].map (Value.int .u8) ++ Lib.strCells s) = (nameB s).map (Value.int .u8) := by rw [strCells_bytes]; rfl
  have ho := HO.out
  rw [e] at ho
  obtain ⟨a, c, rfl, hr⟩ := RdI.own ho (fun x hx => bd_u8' (nameB_byte s x hx))
  exact ⟨a, c, by rw [nameB_len]; rfl, hr, HB.out⟩

theorem refBytes8_walk (r : Rf) (w : World) :
    Calls Try.prog 63 #[r.val] w fun e w' => ∃ a c, e = .returned (.slice a 2 c) ∧ RdI .u8 w' a c (refB2 r) ∧ Below w.heap.size w w' := by
  obtain ⟨m, i⟩ := r
  show Calls _ _ #[.agg #[.int .i64 m, .int .i64 i]] w _
  go_enter Try.func63, Try.ntmps63
  go_wp2
  go_ret
  have hr := rd_lit8 (w.alloc (.cells #[.int .i64 m, .int .i64 i] 30)) (refB2 ⟨m, i⟩) (refB2_byte _) (show 2 ≤ 1000 by decide)
  rw [show (w.alloc (.cells #[.int .i64 m, .int .i64 i] 30)).heap.size = w.heap.size + 1 by simp] at hr
  exact ⟨_, _, rfl, hr, bel2 _ _ _⟩

set_option maxRecDepth 100000 in
/-- 'slices.Grow(nil, n)'. -/
theorem grow_walk (n : Nat) (w : World) (hn : n ≤ 1000000) :
    Calls Try.prog 70 #[.slice none 0 0, .int .i64 n] w fun e w' => ∃ v, e = .returned v ∧ w'.ownsRow w.heap.size 5 1 v 0 [] ∧ Below w.heap.size w w' := by
  have h1 : (n : Int) ≤ 1000000 := by omega
  obtain ⟨ti, hti, hti0, hti1, hti2⟩ := info_parts info_u8
  rcases Nat.eq_zero_or_pos n with rfl | h0
  · go_enter Try.func70, Try.ntmps70
    go_wp2
    go_ret
    exact ⟨_, rfl, World.ownsRow_nil _ _ _ _, Below.refl _ _⟩
  · have hr := Lib.run_append_nil_zeros (P := Try.prog) w 46 3 46 5 ti (.int .u8 0) .i64 .i64 Try.underlying46 Try.underlying3 hti hti0 n h0 (by rw [hti1]; decide) (by omega) (by rw [hti2]; omega)
    have h2 : (0 : Int) < n := by omega
    have HR := Lib.hid hr
    have HCP := Lib.hid (And.intro (grownCap_ge w n 0 5) (grownCap_le_maxLen w n 0 5 (by unfold maxLen; omega)))
    have HN := Lib.hid h0
    obtain ⟨cp, hcp⟩ : ∃ cp, cp = grownCap w n 0 5 := ⟨_, rfl⟩
    rw [← hcp] at HR HCP
    have k1 : n ≤ cp := HCP.out.1
    clear hti hti0 hti1 hti2 hcp hr h0
    have f1 : True := trivial
    go_enter Try.func70, Try.ntmps70
    go_wp2_with (first | (have _f := f1; at_builtin; refine Lib.wpList_append_run _ rfl (.tmp 20) (.tmp 21) 46 3 rfl _ _ rfl rfl _ _ HR.out ?_; clear _f f1))
    go_ret
    have hb := (Below.refl w.heap.size w).drew.alloc (Nat.le_refl _) (.cells (Builtin.zeroCells (Value.int .u8 0).cells n ++ Builtin.zeroCells (Value.int .u8 0).cells (cp - n)) 5)
    refine ⟨_, rfl, ⟨rfl, .inr ⟨w.heap.size, cp, _, rfl, Nat.le_refl _, At.new w.drew _ 5, Nat.zero_le _, HCP.out.2, ?_, rfl⟩⟩, hb⟩
    rw [Array.size_append, size_zeroCells, size_zeroCells]
    show n * 1 + (cp - n) * 1 = cp * 1
    have := HCP.out.1
    omega

theorem take_flat2 (ls : List (List Int)) (i : Nat) (h : i < ls.length) : (ls.take (i + 1)).flatten = (ls.take i).flatten ++ ls.getD i [] := by
  rw [List.take_succ_eq_append_getElem h, List.flatten_append, List.getD_eq_getElem?_getD, List.getElem?_eq_getElem h]; simp
theorem len_take_flat2 (ls : List (List Int)) (i : Nat) : (ls.take i).flatten.length ≤ ls.flatten.length := by
  conv => rhs; rw [← List.take_append_drop i ls, List.flatten_append, List.length_append]
  omega
theorem len_take_succ2 (ls : List (List Int)) (i : Nat) (h : i < ls.length) : (ls.take (i + 1)).flatten.length = (ls.take i).flatten.length + (ls.getD i []).length := by
  rw [take_flat2 ls i h, List.length_append]

set_option maxRecDepth 100000 in
set_option maxHeartbeats 2000000 in
/-- 'slices.Concat(l...)'. -/
theorem concat_walk (a : Option Addr) (ls : List (List Int)) (cap : Nat) (w : World) (hr : RdII .u8 w a cap ls) (hsum : ls.flatten.length ≤ 1000000) :
    Calls Try.prog 48 #[.slice a ls.length cap] w fun e w' => ∃ v, e = .returned v ∧ w'.ownsRow w.heap.size 5 1 v ls.flatten.length (ls.flatten.map (Value.int .u8)) ∧ Below w.heap.size w w' := by
  have hlen := hr.len
  obtain ⟨b, o, hat, hcell⟩ := hr.at'
  clear hr
  have HAt := Lib.hid hat; clear hat
  have HC := Lib.hid hcell; clear hcell
  have HS := Lib.hid hsum
  clear hsum
  have f1 : True := trivial
  have f2 : True := trivial
  go_enter Try.func48, Try.ntmps48
  go_wp2_with (fail)
  go_loop [3, 5, 11] (fun n _ v => ∃ i : Nat, i ≤ ls.length ∧ v = .int .i64 i ∧ n = .int .i64 ((ls.take i).flatten.length : Nat)) (fun _ _ v => ls.length - (intOf v).toNat)
  case atStart => exact ⟨0, Nat.zero_le _, rfl, rfl⟩
  case round =>
    obtain ⟨i, hi, rfl, rfl⟩ := hrel
    by_cases hlt : i < ls.length
    · obtain ⟨rfl, hb⟩ := HAt.out (by omega)
      obtain ⟨x, c, hc, hrx⟩ := HC.out i hlt
      have HN := Lib.hid (len_take_succ2 ls i hlt)
      have hb2 := hrx.len
      obtain ⟨m, hm⟩ : ∃ m, m = ls.getD i [] := ⟨_, rfl⟩
      rw [← hm] at hc hb2
      obtain ⟨t, ht⟩ : ∃ t, t = (ls.take i).flatten.length := ⟨_, rfl⟩
      rw [← ht]
      have k1 : (t : Int) + m.length ≤ 1000000 := by have h1 := HN.out; have h2 := len_take_flat2 ls (i + 1); have h3 := HS.out; rw [← hm] at h1; omega
      have HT := Lib.hid (show (ls.take (i + 1)).flatten.length = t + m.length by rw [HN.out, ht, hm])
      have HLT := Lib.hid hlt
      clear hrx hm ht hb HN
      go_wp2
      go_round
      case rel => exact ⟨i + 1, HLT.out, by go_num, by rw [HT.out]; go_num⟩
      case measure => simp [intOf]; have := HLT.out; omega
    · obtain rfl : i = ls.length := by omega
      have HTA := Lib.hid (show (ls.take ls.length).flatten.length = ls.flatten.length by rw [List.take_length])
      rw [HTA.out]
      have HG := Lib.hid (grow_walk ls.flatten.length w HS.out)
      obtain ⟨N, hN⟩ : ∃ N, N = ls.flatten.length := ⟨_, rfl⟩
      rw [← hN] at HG ⊢
      have HNN := Lib.hid hN
      have k0 : (N : Int) ≤ 1000000 := by have := HS.out; omega
      clear hN hi
      go_wp2_with (first | (have _f := f1; refine HG.out.mono ?_; rintro e' w1 ⟨v, rfl, ho, hb⟩; have HO := Lib.hid ho; have HB := Lib.hid hb; clear ho hb _f f1))
      go_loopw [6, 8, 27] (fun v _ i wr => ∃ k : Nat, k ≤ ls.length ∧ i = .int .i64 k ∧ wr.ownsRow w.heap.size 5 1 v (ls.take k).flatten.length ((ls.take k).flatten.map (Value.int .u8)) ∧ Below w.heap.size w wr) (fun _ _ i _ => ls.length - (intOf i).toNat)
      case atStart => exact ⟨0, Nat.zero_le _, rfl, HO.out, HB.out⟩
      case round =>
        obtain ⟨k, hk, rfl, ho, hb⟩ := hrel
        have HOr := Lib.hid ho
        have HBr := Lib.hid hb
        clear ho hb
        by_cases hlt : k < ls.length
        · obtain ⟨rfl, hb⟩ := HAt.out (by omega)
          obtain ⟨x, c, hc, hrx⟩ := HC.out k hlt
          have hc2 := (HBr.out.cell (p := ⟨b, o + k, none⟩) hb).trans hc
          have HRX := Lib.hid (hrx.below HBr.out (Nat.le_refl _))
          have HTF := Lib.hid (take_flat2 ls k hlt)
          have HLE := Lib.hid (len_take_succ2 ls k hlt)
          have HLE2 := Lib.hid (len_take_flat2 ls (k + 1))
          have HLT := Lib.hid hlt
          clear hc hrx hb
          obtain ⟨m, hm⟩ : ∃ m, m = ls.getD k [] := ⟨_, rfl⟩
          rw [← hm] at hc2 HRX HTF HLE
          clear hm
          have f3 : True := trivial
          go_wp2_with (first | (have _f := f3; refine append_at rfl (.tmp 31) (.tmp 32) et_u8 rfl w.heap.size rfl HOr.out rfl HRX.out.row (by rw [List.length_map, Nat.mul_one]) (fun u hu => by obtain ⟨x, _, rfl⟩ := List.mem_map.1 hu; rfl) (by have := HS.out; have := HLE.out; have := HLE2.out; omega) (by have := HS.out; have := HLE.out; have := HLE2.out; omega) HBr.out.size ?_; intro v' w2 ho hg hv; have HO2 := Lib.hid ho; have HB2 := Lib.hid (bel_own HBr.out HOr.out hg); clear ho hg hv _f f3))
          go_roundw
          case rel => exact ⟨k + 1, HLT.out, by go_num, by rw [HTF.out, List.map_append, List.length_append]; exact HO2.out, HB2.out⟩
          case measure => simp [intOf]; have := HLT.out; omega
        · obtain rfl : k = ls.length := by omega
          clear hk
          go_wp2
          go_ret
          refine ⟨_, rfl, ?_, HBr.out⟩
          have := HOr.out
          rw [List.take_length] at this
          exact this
end

section
set_option linter.unusedVariables false
set_option linter.unusedSimpArgs false
open Go.RowKit

/-- the bytes so far, in a variable of their own. -/
structure Acc (w0 w : World) (g : Nat) (l : List Int) : Prop where
  low : w0.heap.size ≤ g
  bel : Below w0.heap.size w0 w
  box : ∃ v, At w g #[v] 46 ∧ w.ownsRow w0.heap.size 5 1 v l.length (l.map (Value.int .u8))
  byte : ∀ x ∈ l, isByte x
/-- what is kept: every struct's block but g. -/
def KeptA (g : Nat) (w w' : World) : Prop := ∀ (h : Nat) (cs : Array Value) (t : TypeId), At w h cs t → 5 ≠ t → h ≠ g → At w' h cs t
variable {w0 w w' w2 : World} {g : Nat} {l : List Int}
/-- bytes are added: g and one row of bytes are written. -/
structure Adds (w0 w : World) (g : Nat) (l m : List Int) (w' : World) : Prop where
  acc : Acc w0 w' g (l ++ m)
  ke : ∃ H : Option Nat, Ke (fun i => i = g ∨ H = some i) w w' ∧ (∀ (h : Nat) (cs : Array Value) (t : TypeId), At w h cs t → 5 ≠ t → H ≠ some h) ∧ ∀ i, H = some i → w0.heap.size ≤ i
theorem KeptA.refl (g : Nat) (w : World) : KeptA g w w := fun _ _ _ h _ _ => h
theorem KeptA.trans (h : KeptA g w w') (k : KeptA g w' w2) : KeptA g w w2 := fun x cs t ha ht hg => k x cs t (h x cs t ha ht hg) ht hg
theorem KeptA.bel (h : Below w.heap.size w w') : KeptA g w w' := fun x cs t ha _ _ => ha.bel h
theorem Acc.on (h : Acc w0 w g l) (k : Below w.heap.size w w') : Acc w0 w' g l := by
  obtain ⟨v, h1, h2⟩ := h.box
  exact ⟨h.low, bel_then h.bel k, ⟨v, h1.bel k, ownsRow_bel h2 k⟩, h.byte⟩

/-- some slices of bytes, side by side in a block. -/
theorem rdii_lit {w : World} {h : Nat} {t : TypeId} (ss : List (Sl Int)) (ha : At w h (ss.map Sl.val).toArray t) (hs : ∀ s ∈ ss, RdI .u8 w s.a s.c s.l) (hl : ss.length ≤ 1000) : RdII .u8 w (some ⟨h, 0, none⟩) ss.length (ss.map Sl.l) := by
  refine ⟨⟨h, 0, fun _ => ⟨rfl, ha.lt⟩, fun i hi => ?_⟩, fun e => (by cases e), by rw [List.length_map]; exact Nat.le_refl _, by unfold maxLen; omega⟩
  rw [List.length_map] at hi
  refine ⟨ss[i].a, ss[i].c, ?_, ?_⟩
  · rw [Nat.zero_add, ha.cell]
    rw [List.getD_eq_getElem?_getD, List.getElem?_map, List.getElem?_eq_getElem hi]
    simp [hi, Sl.val]
  · rw [List.getD_eq_getElem?_getD, List.getElem?_map, List.getElem?_eq_getElem hi]
    exact hs _ (List.getElem_mem hi)

set_option maxRecDepth 100000 in
set_option maxHeartbeats 2000000 in
theorem add_walk (h : Acc w0 w g l) (a : Option Addr) (ls : List (List Int)) (cap n : Nat) (hr : RdII .u8 w a cap ls) (hn : ls.length = n) (hsum : ls.flatten.length ≤ 1000) (hl : l.length ≤ 3000000) (hby : ∀ x ∈ ls.flatten, isByte x) :
    Calls Try.prog 62 #[.slice a n cap, .pointer (some ⟨g, 0, none⟩)] w fun e w' => e = .returned (.tuple #[]) ∧ Adds w0 w g l ls.flatten w' := by
  subst hn
  obtain ⟨v, hA, hO⟩ := h.box
  have HLO := Lib.hid h.low
  have HBE := Lib.hid h.bel
  have HBY := Lib.hid h.byte
  have HA := Lib.hid hA
  have HO := Lib.hid hO
  have HC : Hid (∀ W, Below w.heap.size w W → Calls Try.prog 48 #[.slice a ls.length cap] W fun e w' => ∃ v, e = .returned v ∧ w'.ownsRow W.heap.size 5 1 v ls.flatten.length (ls.flatten.map (Value.int .u8)) ∧ Below W.heap.size W w') := Lib.hid (fun W k => concat_walk a ls cap W (hr.below k (Nat.le_refl _)) (by omega))
  have HS := Lib.hid hsum
  have HL := Lib.hid hl
  have HB2 := Lib.hid hby
  have HGL := Lib.hid hA.lt
  clear h hA hO hr hsum hl hby
  have f1 : True := trivial
  go_enter Try.func62, Try.ntmps62
  go_wp2_with (fail)
  refine wp_region_tailK (G := (· ≠ g)) [([0, 1], 2), ([], 3)] [] 4 [3, 2, 1, 0] (by kernel_rfl) (by kernel_rfl) (fun _ _ d _ _ h => by cases d <;> exact h) ?_
  have HAd := Lib.hid (HA.out.bel ((Below.refl _ w).drew))
  have l1 := HAd.out.laterCell (G := (· ≠ g)) (fun h => h rfl) 0 (v := v) rfl
  refine mixT_stepK ?_
  simp only [pickOps, nth, Act.put, List.setIfInBounds_toArray, List.set_cons_succ, List.set_cons_zero]
  haveI : Nonempty World := ⟨w⟩
  (repeat (go_big_quiet_step (fail)))
  refine wpQuiet_nil ?_
  go_wp2_with (first | (have _f := f1; refine (HC.out _ ((Below.refl _ w).drew)).mono ?_; rintro e' w1 ⟨u, rfl, ho, hb⟩; have HU := Lib.hid ho; have HB1 := Lib.hid hb; clear ho hb _f f1))
  refine ⟨Ke.below _ HB1.out, mixT_stepK ?_⟩
  clear l1
  simp only [pickOps, nth, Act.put, List.setIfInBounds_toArray, List.set_cons_succ, List.set_cons_zero]
  refine wpQuiet_nil ?_
  have HBw : Hid (Below w.heap.size w w1) := Lib.hid (bel_then ((Below.refl _ w).drew) HB1.out)
  have HO1 := Lib.hid (ownsRow_bel HO.out HBw.out)
  obtain ⟨ua, uc, rfl, hur⟩ := RdI.own HU.out (fun x hx => bd_u8' (HB2.out x hx))
  have HUR := Lib.hid hur
  clear hur
  refine append_at rfl (.tmp 3) (.tmp 5) et_u8 rfl w0.heap.size rfl HO1.out rfl HUR.out.row (by rw [List.length_map, Nat.mul_one]) (fun u hu => by obtain ⟨x, _, rfl⟩ := List.mem_map.1 hu; rfl) (by have := HS.out; have := HL.out; omega) (by have := HS.out; have := HL.out; omega) (bel_then HBE.out HBw.out).size ?_
  intro v' w2 ho hg hv
  have hne : v.ownBlock ≠ some g := ownsRow_no HO.out HA.out (by decide)
  have HK2 : Hid (Ke (fun i => v.ownBlock = some i) w1 w2) := Lib.hid (Ke.ofGrown hg)
  have HNE := Lib.hid hne
  have HO2 := Lib.hid ho
  have HBO := Lib.hid (bel_own (bel_then HBE.out HBw.out) HO1.out hg)
  have HKO : Hid (∀ (h : Nat) (cs : Array Value) (t : TypeId), At w h cs t → 5 ≠ t → At w2 h cs t) := Lib.hid (fun h cs t ha ht => (ha.bel HBw.out).ke HK2.out (ownsRow_no HO.out ha ht))
  clear ho hg hv hne
  go_wp2_with (fail)
  refine ⟨HK2.out.mono (fun i _ hi e => by subst e; exact HNE.out hi), mixT_endK ?_⟩
  simp only [pickOps, nth, Act.put, List.setIfInBounds_toArray, List.set_cons_succ, List.set_cons_zero]
  refine wpQuiet_nil ?_
  have HA2 := Lib.hid (HKO.out g _ _ HA.out (by decide))
  refine store1_sep rfl 46 (.tmp 1) (.tmp 6) rfl (Sep.one HA2.out) 0 (v := v') (old := #[v]) rfl rfl rfl rfl (by kernel_rfl) (by obtain ⟨a, c, hv, _⟩ := RdC.own HO2.out; rw [hv]; rfl) ?_
  intro w3 S k3 _
  have HS3 : Hid (At w3 g #[v'] 46) := Lib.hid (S.at 0 rfl)
  have HK3 := Lib.hid k3
  clear S k3
  go_wp2_with (fail)
  go_end0
  refine ⟨rfl, ⟨⟨HLO.out, HBO.out.trans (bel_ke HK3.out (fun i e => by subst e; exact HLO.out) HBO.out.size), ⟨v', HS3.out, ?_⟩, fun x hx => ?_⟩, v.ownBlock, ?_, fun h cs t ha ht => ownsRow_no HO.out ha ht, fun i hi => (HO.out.lt i hi).1⟩⟩
  · rw [List.length_append, List.map_append]
    exact ownsRow_ke HO2.out HK3.out (fun i hi e => by
      subst e
      exact ownsRow_no HO2.out HA2.out (by decide) hi)
  · rcases List.mem_append.1 hx with hx | hx
    · exact HBY.out x hx
    · exact HB2.out x hx
  · exact ((Ke.below _ HBw.out).trans (HK2.out.mono (fun i _ e => .inr e))).trans (HK3.out.mono (fun i _ e => .inl e))

/-- with a bound on how many they are. -/
structure AccN (w0 w : World) (g n : Nat) (l : List Int) : Prop where
  acc : Acc w0 w g l
  len : l.length ≤ n
theorem AccN.on {n : Nat} (h : AccN w0 w g n l) (k : Below w.heap.size w w') : AccN w0 w' g n l := ⟨h.acc.on k, h.len⟩
theorem AccN.more {n n' : Nat} (h : AccN w0 w g n l) (hn : n ≤ n') : AccN w0 w g n' l := ⟨h.acc, Nat.le_trans h.len hn⟩
theorem AccN.add {n : Nat} {m : List Int} (h : AccN w0 w g n l) (k : Adds w0 w g l m w') : AccN w0 w' g (n + m.length) (l ++ m) := ⟨k.acc, by rw [List.length_append]; have := h.len; omega⟩
theorem Adds.at {m : List Int} (k : Adds w0 w g l m w') {h : Nat} {cs : Array Value} {t : TypeId} (ha : At w h cs t) (ht : 5 ≠ t) (hg : h ≠ g) : At w' h cs t := by
  obtain ⟨H, h1, h2, h3⟩ := k.ke
  exact ha.ke h1 (fun e => by
    rcases e with e | e
    · exact hg e
    · exact h2 h cs t ha ht e)
theorem Adds.keK {m : List Int} {G : Nat → Prop} (k : Adds w0 w g l m w') (hG : ∀ i, ¬ G i → i ≠ g ∧ (i < w0.heap.size ∨ ∃ cs t, At w i cs t ∧ 5 ≠ t)) : Ke G w w' := by
  obtain ⟨H, h1, h2, h3⟩ := k.ke
  refine h1.mono (fun i hi hh => ?_)
  rcases Classical.em (G i) with hg | hg
  · exact hg
  · obtain ⟨q1, q2⟩ := hG i hg
    rcases hh with e | e
    · exact absurd e q1
    · rcases q2 with q2 | ⟨cs, t, q3, q4⟩
      · exact absurd (h3 i e) (by omega)
      · exact absurd e (h2 i cs t q3 q4)
/-- one slice, two, three: as add takes them. -/
theorem rdii1 {t : TypeId} {h : Nat} {a1 : Option Addr} {n1 c1 : Nat} {l1 : List Int} (ha : At w h #[.slice a1 n1 c1] t) (h1 : RdI .u8 w a1 c1 l1) (e1 : l1.length = n1) : RdII .u8 w (some ⟨h, 0, none⟩) 1 [l1] := by
  subst e1
  exact rdii_lit [⟨a1, c1, l1⟩] ha (fun s hs => by obtain rfl := List.mem_singleton.1 hs; exact h1) (by simp)
theorem rdii2 {t : TypeId} {h : Nat} {a1 a2 : Option Addr} {n1 c1 n2 c2 : Nat} {l1 l2 : List Int} (ha : At w h #[.slice a1 n1 c1, .slice a2 n2 c2] t) (h1 : RdI .u8 w a1 c1 l1) (h2 : RdI .u8 w a2 c2 l2) (e1 : l1.length = n1) (e2 : l2.length = n2) : RdII .u8 w (some ⟨h, 0, none⟩) 2 [l1, l2] := by
  subst e1 e2
  exact rdii_lit [⟨a1, c1, l1⟩, ⟨a2, c2, l2⟩] ha (fun s hs => by
    rcases List.mem_cons.1 hs with rfl | hs
    · exact h1
    · obtain rfl := List.mem_singleton.1 hs; exact h2) (by simp)
theorem rdii3 {t : TypeId} {h : Nat} {a1 a2 a3 : Option Addr} {n1 c1 n2 c2 n3 c3 : Nat} {l1 l2 l3 : List Int} (ha : At w h #[.slice a1 n1 c1, .slice a2 n2 c2, .slice a3 n3 c3] t) (h1 : RdI .u8 w a1 c1 l1) (h2 : RdI .u8 w a2 c2 l2) (h3 : RdI .u8 w a3 c3 l3) (e1 : l1.length = n1) (e2 : l2.length = n2) (e3 : l3.length = n3) : RdII .u8 w (some ⟨h, 0, none⟩) 3 [l1, l2, l3] := by
  subst e1 e2 e3
  exact rdii_lit [⟨a1, c1, l1⟩, ⟨a2, c2, l2⟩, ⟨a3, c3, l3⟩] ha (fun s hs => by
    rcases List.mem_cons.1 hs with rfl | hs
    · exact h1
    · rcases List.mem_cons.1 hs with rfl | hs
      · exact h2
      · obtain rfl := List.mem_singleton.1 hs; exact h3) (by simp)
/-- 'add' of one, two, three. -/
theorem add1 {n : Nat} {t : TypeId} {h : Nat} {a1 : Option Addr} {n1 c1 : Nat} {l1 : List Int} (A : AccN w0 w g n l) (ha : At w h #[.slice a1 n1 c1] t) (h1 : RdI .u8 w a1 c1 l1) (e1 : l1.length = n1) (hs : n1 ≤ 1000) (hn : n ≤ 3000000) :
    Calls Try.prog 62 #[.slice (some ⟨h, 0, none⟩) 1 1, .pointer (some ⟨g, 0, none⟩)] w fun e w' => e = .returned (.tuple #[]) ∧ Adds w0 w g l l1 w' := by
  have := add_walk A.acc (some ⟨h, 0, none⟩) [l1] 1 1 (rdii1 ha h1 e1) rfl (by simp; omega) (Nat.le_trans A.len hn) (fun x hx => by
    simp only [List.flatten_cons, List.flatten_nil, List.append_nil] at hx
    exact bd_u8 (h1.bd x hx))
  simpa using this
theorem add2 {n : Nat} {t : TypeId} {h : Nat} {a1 a2 : Option Addr} {n1 c1 n2 c2 : Nat} {l1 l2 : List Int} (A : AccN w0 w g n l) (ha : At w h #[.slice a1 n1 c1, .slice a2 n2 c2] t) (h1 : RdI .u8 w a1 c1 l1) (h2 : RdI .u8 w a2 c2 l2) (e1 : l1.length = n1) (e2 : l2.length = n2) (hs : n1 + n2 ≤ 1000) (hn : n ≤ 3000000) :
    Calls Try.prog 62 #[.slice (some ⟨h, 0, none⟩) 2 2, .pointer (some ⟨g, 0, none⟩)] w fun e w' => e = .returned (.tuple #[]) ∧ Adds w0 w g l (l1 ++ l2) w' := by
  have := add_walk A.acc (some ⟨h, 0, none⟩) [l1, l2] 2 2 (rdii2 ha h1 h2 e1 e2) rfl (by simp; omega) (Nat.le_trans A.len hn) (fun x hx => by
    simp only [List.flatten_cons, List.flatten_nil, List.append_nil, List.mem_append] at hx
    rcases hx with hx | hx
    · exact bd_u8 (h1.bd x hx)
    · exact bd_u8 (h2.bd x hx))
  simpa using this
theorem add3 {n : Nat} {t : TypeId} {h : Nat} {a1 a2 a3 : Option Addr} {n1 c1 n2 c2 n3 c3 : Nat} {l1 l2 l3 : List Int} (A : AccN w0 w g n l) (ha : At w h #[.slice a1 n1 c1, .slice a2 n2 c2, .slice a3 n3 c3] t) (h1 : RdI .u8 w a1 c1 l1) (h2 : RdI .u8 w a2 c2 l2) (h3 : RdI .u8 w a3 c3 l3) (e1 : l1.length = n1) (e2 : l2.length = n2) (e3 : l3.length = n3) (hs : n1 + n2 + n3 ≤ 1000) (hn : n ≤ 3000000) :
    Calls Try.prog 62 #[.slice (some ⟨h, 0, none⟩) 3 3, .pointer (some ⟨g, 0, none⟩)] w fun e w' => e = .returned (.tuple #[]) ∧ Adds w0 w g l (l1 ++ (l2 ++ l3)) w' := by
  have := add_walk A.acc (some ⟨h, 0, none⟩) [l1, l2, l3] 3 3 (rdii3 ha h1 h2 h3 e1 e2 e3) rfl (by simp; omega) (Nat.le_trans A.len hn) (fun x hx => by
    simp only [List.flatten_cons, List.flatten_nil, List.append_nil, List.mem_append] at hx
    rcases hx with hx | hx | hx
    · exact bd_u8 (h1.bd x hx)
    · exact bd_u8 (h2.bd x hx)
    · exact bd_u8 (h3.bd x hx))
  simpa using this
end

section
set_option linter.unusedVariables false
set_option linter.unusedSimpArgs false
open Go.RowKit

/-- the bytes so far beside the face. -/
structure RS (w0 w : World) (gf g n : Nat) (FC : Array Value) (l : List Int) : Prop where
  acc : AccN w0 w g n l
  face : At w gf FC 26
  lt : gf < g
  lo : w0.heap.size ≤ gf
variable {w0 w w' : World} {gf g n n' : Nat} {FC : Array Value} {l m : List Int}
theorem RS.on (h : RS w0 w gf g n FC l) (k : Below w.heap.size w w') : RS w0 w' gf g n FC l := ⟨h.acc.on k, h.face.bel k, h.lt, h.lo⟩
theorem RS.add (h : RS w0 w gf g n FC l) (k : Adds w0 w g l m w') : RS w0 w' gf g (n + m.length) FC (l ++ m) := ⟨h.acc.add k, k.at h.face (by decide) (Nat.ne_of_lt h.lt), h.lt, h.lo⟩
theorem RS.more (h : RS w0 w gf g n FC l) (hn : n ≤ n') : RS w0 w gf g n' FC l := ⟨h.acc.more hn, h.face, h.lt, h.lo⟩
theorem RS.bel (h : RS w0 w gf g n FC l) : Below w0.heap.size w0 w := h.acc.acc.bel
theorem RS.glt (h : RS w0 w gf g n FC l) : g < w.heap.size := by obtain ⟨v, h1, _⟩ := h.acc.acc.box; exact h1.lt

/-- bytes were added: the bytes so far; every struct's block is as it was. -/
def Stp (w0 w : World) (gf g n : Nat) (FC : Array Value) (l m : List Int) (w' : World) : Prop :=
  RS w0 w' gf g (n + m.length) FC (l ++ m) ∧ (∀ (h : Nat) (cs : Array Value) (t : TypeId), At w h cs t → 5 ≠ t → h ≠ g → At w' h cs t) ∧ ∀ G : Nat → Prop, (∀ i, ¬ G i → i ≠ g ∧ (i < w0.heap.size ∨ ∃ cs t, At w i cs t ∧ 5 ≠ t)) → Ke G w w'
theorem Stp.of (h : RS w0 w gf g n FC l) (k : Adds w0 w g l m w') : Stp w0 w gf g n FC l m w' := ⟨h.add k, fun _ _ _ ha ht hg => k.at ha ht hg, fun G hG => k.keK hG⟩
theorem add_of1 (h : RS w0 w gf g n FC l) {a1 : Option Addr} {n1 c1 : Nat} {l1 : List Int} (h1 : RdI .u8 w a1 c1 l1) (e1 : l1.length = n1) (hs : n1 ≤ 1000) (hn : n ≤ 3000000) :
    Calls Try.prog 62 #[.slice (some ⟨w.heap.size, 0, none⟩) 1 1, .pointer (some ⟨g, 0, none⟩)] (w.alloc (.cells #[.slice a1 n1 c1] 46)) fun e w' => e = .returned (.tuple #[]) ∧ Stp w0 (w.alloc (.cells #[.slice a1 n1 c1] 46)) gf g n FC l l1 w' :=
  (add1 (h.on (bel1 w _)).acc (At.new w _ _) (h1.below (bel1 w _) (Nat.le_refl _)) e1 hs hn).mono fun e w' ⟨q1, q2⟩ => ⟨q1, Stp.of (h.on (bel1 w _)) q2⟩
theorem add_of2 (h : RS w0 w gf g n FC l) {a1 a2 : Option Addr} {n1 c1 n2 c2 : Nat} {l1 l2 : List Int} (h1 : RdI .u8 w a1 c1 l1) (h2 : RdI .u8 w a2 c2 l2) (e1 : l1.length = n1) (e2 : l2.length = n2) (hs : n1 + n2 ≤ 1000) (hn : n ≤ 3000000) :
    Calls Try.prog 62 #[.slice (some ⟨w.heap.size, 0, none⟩) 2 2, .pointer (some ⟨g, 0, none⟩)] (w.alloc (.cells #[.slice a1 n1 c1, .slice a2 n2 c2] 46)) fun e w' => e = .returned (.tuple #[]) ∧ Stp w0 (w.alloc (.cells #[.slice a1 n1 c1, .slice a2 n2 c2] 46)) gf g n FC l (l1 ++ l2) w' :=
  (add2 (h.on (bel1 w _)).acc (At.new w _ _) (h1.below (bel1 w _) (Nat.le_refl _)) (h2.below (bel1 w _) (Nat.le_refl _)) e1 e2 hs hn).mono fun e w' ⟨q1, q2⟩ => ⟨q1, Stp.of (h.on (bel1 w _)) q2⟩
theorem add_of3 (h : RS w0 w gf g n FC l) {a1 a2 a3 : Option Addr} {n1 c1 n2 c2 n3 c3 : Nat} {l1 l2 l3 : List Int} (h1 : RdI .u8 w a1 c1 l1) (h2 : RdI .u8 w a2 c2 l2) (h3 : RdI .u8 w a3 c3 l3) (e1 : l1.length = n1) (e2 : l2.length = n2) (e3 : l3.length = n3) (hs : n1 + n2 + n3 ≤ 1000) (hn : n ≤ 3000000) :
    Calls Try.prog 62 #[.slice (some ⟨w.heap.size, 0, none⟩) 3 3, .pointer (some ⟨g, 0, none⟩)] (w.alloc (.cells #[.slice a1 n1 c1, .slice a2 n2 c2, .slice a3 n3 c3] 46)) fun e w' => e = .returned (.tuple #[]) ∧ Stp w0 (w.alloc (.cells #[.slice a1 n1 c1, .slice a2 n2 c2, .slice a3 n3 c3] 46)) gf g n FC l (l1 ++ (l2 ++ l3)) w' :=
  (add3 (h.on (bel1 w _)).acc (At.new w _ _) (h1.below (bel1 w _) (Nat.le_refl _)) (h2.below (bel1 w _) (Nat.le_refl _)) (h3.below (bel1 w _) (Nat.le_refl _)) e1 e2 e3 hs hn).mono fun e w' ⟨q1, q2⟩ => ⟨q1, Stp.of (h.on (bel1 w _)) q2⟩
/-- a literal of bytes, and it alone. -/
theorem add_lit1 (h : RS w0 w gf g n FC l) (l1 : List Int) (hb : ∀ x ∈ l1, isByte x) (n1 : Nat) (e1 : l1.length = n1) (hs : n1 ≤ 1000) (hn : n ≤ 3000000) :
    Calls Try.prog 62 #[.slice (some ⟨w.heap.size + 1, 0, none⟩) 1 1, .pointer (some ⟨g, 0, none⟩)] ((w.alloc (.cells (l1.map (Value.int .u8)).toArray 5)).alloc (.cells #[.slice (some ⟨w.heap.size, 0, none⟩) n1 n1] 46)) fun e w' => e = .returned (.tuple #[]) ∧ Stp w0 w gf g n FC l l1 w' := by
  subst e1
  have h1 := rd_lit8 w l1 hb hs
  have := add_of1 (h.on (bel1 w (.cells (l1.map (Value.int .u8)).toArray 5))) h1 rfl hs hn
  rw [show (w.alloc (.cells (l1.map (Value.int .u8)).toArray 5)).heap.size = w.heap.size + 1 by simp] at this
  refine this.mono fun e w' ⟨q1, q2, q3, q4⟩ => ⟨q1, q2, fun x cs t ha ht hg => q3 x cs t (ha.bel (bel2 w _ _)) ht hg, fun G hG => (Ke.below G (bel2 w _ _)).trans (q4 G (fun i hi => ⟨(hG i hi).1, ?_⟩))⟩
  rcases (hG i hi).2 with q | ⟨cs, t, q5, q6⟩
  · exact .inl q
  · exact .inr ⟨cs, t, q5.bel (bel2 w _ _), q6⟩
theorem one_byte (x : Int) : ∀ y ∈ [x % 256], isByte y := fun y hy => by obtain rfl := List.mem_singleton.1 hy; exact ⟨by omega, by omega⟩
theorem two_bytes (x z : Int) : ∀ y ∈ [x % 256, z % 256], isByte y := fun y hy => by
  simp only [List.mem_cons, List.not_mem_nil, or_false] at hy
  rcases hy with rfl | rfl <;> exact ⟨by omega, by omega⟩
theorem RS.start {l2 : List Int} (w : World) (FC : Array Value) (x : Int) :
    RS w (((w.alloc (.cells FC 26)).alloc (.cells #[.int .u8 (x % 256)] 5)).alloc (.cells #[.slice (some ⟨w.heap.size + 1, 0, none⟩) 1 1] 46)) w.heap.size (w.heap.size + 2) 1 FC [x % 256] := by
  have hA := At.new ((w.alloc (.cells FC 26)).alloc (.cells #[.int .u8 (x % 256)] 5)) #[.slice (some ⟨w.heap.size + 1, 0, none⟩) 1 1] 46
  rw [show ((w.alloc (.cells FC 26)).alloc (.cells #[.int .u8 (x % 256)] 5)).heap.size = w.heap.size + 2 by simp] at hA
  have hO := own_lit8 (w.alloc (.cells FC 26)) [x % 256] (show 1 ≤ 1000 by decide) (B := w.heap.size) (by simp)
  rw [show (w.alloc (.cells FC 26)).heap.size = w.heap.size + 1 by simp] at hO
  exact ⟨⟨⟨by omega, bel3 w _ _ _, ⟨_, hA, ownsRow_bel hO (bel1 _ _)⟩, one_byte x⟩, Nat.le_refl _⟩, ((At.new w FC 26).old _).old _, by omega, Nat.le_refl _⟩
end

end Go.Proofs.Ytfnibpkojhgflaa
