/- Contract: the closure that adds bytes to the bytes so far. -/
import Derived.Test.YtfnibpkojhgflaaFaceConcat
namespace Go.Proofs.Ytfnibpkojhgflaa
set_option linter.unusedVariables false
set_option linter.unusedSimpArgs false
open Go.RowKit

/-- the bytes so far, in a variable of their own. -/
structure Acc (w0 w : World) (g : Nat) (l : List Int) : Prop where
  low : w0.heap.size ≤ g
  bel : Below w0.heap.size w0 w
  box : ∃ v, At w g #[v] 46 ∧ w.ownsRow w0.heap.size 5 1 v l.length (l.map (Value.int .u8))
  byte : ∀ x ∈ l, isByte x
/-- what is kept: every struct's block but g. -/
def KeptA (g : Nat) (w w' : World) : Prop := ∀ (h : Nat) (cs : Array Value) (t : TypeId), At w h cs t → 5 ≠ t → h ≠ g → At w' h cs t
variable {w0 w w' w2 : World} {g : Nat} {l : List Int}
/-- bytes are added: g and one row of bytes are written. -/
structure Adds (w0 w : World) (g : Nat) (l m : List Int) (w' : World) : Prop where
  acc : Acc w0 w' g (l ++ m)
  ke : ∃ H : Option Nat, Ke (fun i => i = g ∨ H = some i) w w' ∧ (∀ (h : Nat) (cs : Array Value) (t : TypeId), At w h cs t → 5 ≠ t → H ≠ some h) ∧ ∀ i, H = some i → w0.heap.size ≤ i
theorem KeptA.refl (g : Nat) (w : World) : KeptA g w w := fun _ _ _ h _ _ => h
theorem KeptA.trans (h : KeptA g w w') (k : KeptA g w' w2) : KeptA g w w2 := fun x cs t ha ht hg => k x cs t (h x cs t ha ht hg) ht hg
theorem KeptA.bel (h : Below w.heap.size w w') : KeptA g w w' := fun x cs t ha _ _ => ha.bel h
theorem Acc.on (h : Acc w0 w g l) (k : Below w.heap.size w w') : Acc w0 w' g l := by
  obtain ⟨v, h1, h2⟩ := h.box
  exact ⟨h.low, bel_then h.bel k, ⟨v, h1.bel k, ownsRow_bel h2 k⟩, h.byte⟩

/-- some slices of bytes, side by side in a block. -/
theorem rdii_lit {w : World} {h : Nat} {t : TypeId} (ss : List (Sl Int)) (ha : At w h (ss.map Sl.val).toArray t) (hs : ∀ s ∈ ss, RdI .u8 w s.a s.c s.l) (hl : ss.length ≤ 1000) : RdII .u8 w (some ⟨h, 0, none⟩) ss.length (ss.map Sl.l) := by
  refine ⟨⟨h, 0, fun _ => ⟨rfl, ha.lt⟩, fun i hi => ?_⟩, fun e => (by cases e), by rw [List.length_map]; exact Nat.le_refl _, by unfold maxLen; omega⟩
  rw [List.length_map] at hi
  refine ⟨ss[i].a, ss[i].c, ?_, ?_⟩
  · rw [Nat.zero_add, ha.cell]
    rw [List.getD_eq_getElem?_getD, List.getElem?_map, List.getElem?_eq_getElem hi]
    simp [hi, Sl.val]
  · rw [List.getD_eq_getElem?_getD, List.getElem?_map, List.getElem?_eq_getElem hi]
    exact hs _ (List.getElem_mem hi)

set_option maxRecDepth 100000 in
set_option maxHeartbeats 2000000 in
theorem add_walk (h : Acc w0 w g l) (a : Option Addr) (ls : List (List Int)) (cap n : Nat) (hr : RdII .u8 w a cap ls) (hn : ls.length = n) (hsum : ls.flatten.length ≤ 1000) (hl : l.length ≤ 3000000) (hby : ∀ x ∈ ls.flatten, isByte x) :
    Calls Try.prog 62 #[.slice a n cap, .pointer (some ⟨g, 0, none⟩)] w fun e w' => e = .returned (.tuple #[]) ∧ Adds w0 w g l ls.flatten w' := by
  subst hn
  obtain ⟨v, hA, hO⟩ := h.box
  have HLO := Lib.hid h.low
  have HBE := Lib.hid h.bel
  have HBY := Lib.hid h.byte
  have HA := Lib.hid hA
  have HO := Lib.hid hO
  have HC : Hid (∀ W, Below w.heap.size w W → Calls Try.prog 48 #[.slice a ls.length cap] W fun e w' => ∃ v, e = .returned v ∧ w'.ownsRow W.heap.size 5 1 v ls.flatten.length (ls.flatten.map (Value.int .u8)) ∧ Below W.heap.size W w') := Lib.hid (fun W k => concat_walk a ls cap W (hr.below k (Nat.le_refl _)) (by omega))
  have HS := Lib.hid hsum
  have HL := Lib.hid hl
  have HB2 := Lib.hid hby
  have HGL := Lib.hid hA.lt
  clear h hA hO hr hsum hl hby
  have f1 : True := trivial
  go_enter Try.func62, Try.ntmps62
  go_wp2_with (fail)
  refine wp_region_tailK (G := (· ≠ g)) [([0, 1], 2), ([], 3)] [] 4 [3, 2, 1, 0] (by kernel_rfl) (by kernel_rfl) (fun _ _ d _ _ h => by cases d <;> exact h) ?_
  have HAd := Lib.hid (HA.out.bel ((Below.refl _ w).drew))
  have l1 := HAd.out.laterCell (G := (· ≠ g)) (fun h => h rfl) 0 (v := v) rfl
  refine mixT_stepK ?_
  simp only [pickOps, nth, Act.put, List.setIfInBounds_toArray, List.set_cons_succ, List.set_cons_zero]
  haveI : Nonempty World := ⟨w⟩
  (repeat (go_big_quiet_step (fail)))
  refine wpQuiet_nil ?_
  go_wp2_with (first | (have _f := f1; refine (HC.out _ ((Below.refl _ w).drew)).mono ?_; rintro e' w1 ⟨u, rfl, ho, hb⟩; have HU := Lib.hid ho; have HB1 := Lib.hid hb; clear ho hb _f f1))
  refine ⟨Ke.below _ HB1.out, mixT_stepK ?_⟩
  clear l1
  simp only [pickOps, nth, Act.put, List.setIfInBounds_toArray, List.set_cons_succ, List.set_cons_zero]
  refine wpQuiet_nil ?_
  have HBw : Hid (Below w.heap.size w w1) := Lib.hid (bel_then ((Below.refl _ w).drew) HB1.out)
  have HO1 := Lib.hid (ownsRow_bel HO.out HBw.out)
  obtain ⟨ua, uc, rfl, hur⟩ := RdI.own HU.out (fun x hx => bd_u8' (HB2.out x hx))
  have HUR := Lib.hid hur
  clear hur
  refine append_at rfl (.tmp 3) (.tmp 5) et_u8 rfl w0.heap.size rfl HO1.out rfl HUR.out.row (by rw [List.length_map, Nat.mul_one]) (fun u hu => by obtain ⟨x, _, rfl⟩ := List.mem_map.1 hu; rfl) (by have := HS.out; have := HL.out; omega) (by have := HS.out; have := HL.out; omega) (bel_then HBE.out HBw.out).size ?_
  intro v' w2 ho hg hv
  have hne : v.ownBlock ≠ some g := ownsRow_no HO.out HA.out (by decide)
  have HK2 : Hid (Ke (fun i => v.ownBlock = some i) w1 w2) := Lib.hid (Ke.ofGrown hg)
  have HNE := Lib.hid hne
  have HO2 := Lib.hid ho
  have HBO := Lib.hid (bel_own (bel_then HBE.out HBw.out) HO1.out hg)
  have HKO : Hid (∀ (h : Nat) (cs : Array Value) (t : TypeId), At w h cs t → 5 ≠ t → At w2 h cs t) := Lib.hid (fun h cs t ha ht => (ha.bel HBw.out).ke HK2.out (ownsRow_no HO.out ha ht))
  clear ho hg hv hne
  go_wp2_with (fail)
  refine ⟨HK2.out.mono (fun i _ hi e => by subst e; exact HNE.out hi), mixT_endK ?_⟩
  simp only [pickOps, nth, Act.put, List.setIfInBounds_toArray, List.set_cons_succ, List.set_cons_zero]
  refine wpQuiet_nil ?_
  have HA2 := Lib.hid (HKO.out g _ _ HA.out (by decide))
  refine store1_sep rfl 46 (.tmp 1) (.tmp 6) rfl (Sep.one HA2.out) 0 (v := v') (old := #[v]) rfl rfl rfl rfl (by kernel_rfl) (by obtain ⟨a, c, hv, _⟩ := RdC.own HO2.out; rw [hv]; rfl) ?_
  intro w3 S k3 _
  have HS3 : Hid (At w3 g #[v'] 46) := Lib.hid (S.at 0 rfl)
  have HK3 := Lib.hid k3
  clear S k3
  go_wp2_with (fail)
  go_end0
  refine ⟨rfl, ⟨⟨HLO.out, HBO.out.trans (bel_ke HK3.out (fun i e => by subst e; exact HLO.out) HBO.out.size), ⟨v', HS3.out, ?_⟩, fun x hx => ?_⟩, v.ownBlock, ?_, fun h cs t ha ht => ownsRow_no HO.out ha ht, fun i hi => (HO.out.lt i hi).1⟩⟩
  · rw [List.length_append, List.map_append]
    exact ownsRow_ke HO2.out HK3.out (fun i hi e => by
      subst e
      exact ownsRow_no HO2.out HA2.out (by decide) hi)
  · rcases List.mem_append.1 hx with hx | hx
    · exact HBY.out x hx
    · exact HB2.out x hx
  · exact ((Ke.below _ HBw.out).trans (HK2.out.mono (fun i _ e => .inr e))).trans (HK3.out.mono (fun i _ e => .inl e))

/-- with a bound on how many they are. -/
structure AccN (w0 w : World) (g n : Nat) (l : List Int) : Prop where
  acc : Acc w0 w g l
  len : l.length ≤ n
theorem AccN.on {n : Nat} (h : AccN w0 w g n l) (k : Below w.heap.size w w') : AccN w0 w' g n l := ⟨h.acc.on k, h.len⟩
theorem AccN.more {n n' : Nat} (h : AccN w0 w g n l) (hn : n ≤ n') : AccN w0 w g n' l := ⟨h.acc, Nat.le_trans h.len hn⟩
theorem AccN.add {n : Nat} {m : List Int} (h : AccN w0 w g n l) (k : Adds w0 w g l m w') : AccN w0 w' g (n + m.length) (l ++ m) := ⟨k.acc, by rw [List.length_append]; have := h.len; omega⟩
theorem Adds.at {m : List Int} (k : Adds w0 w g l m w') {h : Nat} {cs : Array Value} {t : TypeId} (ha : At w h cs t) (ht : 5 ≠ t) (hg : h ≠ g) : At w' h cs t := by
  obtain ⟨H, h1, h2, h3⟩ := k.ke
  exact ha.ke h1 (fun e => by
    rcases e with e | e
    · exact hg e
    · exact h2 h cs t ha ht e)
theorem Adds.keK {m : List Int} {G : Nat → Prop} (k : Adds w0 w g l m w') (hG : ∀ i, ¬ G i → i ≠ g ∧ (i < w0.heap.size ∨ ∃ cs t, At w i cs t ∧ 5 ≠ t)) : Ke G w w' := by
  obtain ⟨H, h1, h2, h3⟩ := k.ke
  refine h1.mono (fun i hi hh => ?_)
  rcases Classical.em (G i) with hg | hg
  · exact hg
  · obtain ⟨q1, q2⟩ := hG i hg
    rcases hh with e | e
    · exact absurd e q1
    · rcases q2 with q2 | ⟨cs, t, q3, q4⟩
      · exact absurd (h3 i e) (by omega)
      · exact absurd e (h2 i cs t q3 q4)
/-- one slice, two, three: as add takes them. -/
theorem rdii1 {t : TypeId} {h : Nat} {a1 : Option Addr} {n1 c1 : Nat} {l1 : List Int} (ha : At w h #[.slice a1 n1 c1] t) (h1 : RdI .u8 w a1 c1 l1) (e1 : l1.length = n1) : RdII .u8 w (some ⟨h, 0, none⟩) 1 [l1] := by
  subst e1
  exact rdii_lit [⟨a1, c1, l1⟩] ha (fun s hs => by obtain rfl := List.mem_singleton.1 hs; exact h1) (by simp)
theorem rdii2 {t : TypeId} {h : Nat} {a1 a2 : Option Addr} {n1 c1 n2 c2 : Nat} {l1 l2 : List Int} (ha : At w h #[.slice a1 n1 c1, .slice a2 n2 c2] t) (h1 : RdI .u8 w a1 c1 l1) (h2 : RdI .u8 w a2 c2 l2) (e1 : l1.length = n1) (e2 : l2.length = n2) : RdII .u8 w (some ⟨h, 0, none⟩) 2 [l1, l2] := by
  subst e1 e2
  exact rdii_lit [⟨a1, c1, l1⟩, ⟨a2, c2, l2⟩] ha (fun s hs => by
    rcases List.mem_cons.1 hs with rfl | hs
    · exact h1
    · obtain rfl := List.mem_singleton.1 hs; exact h2) (by simp)
theorem rdii3 {t : TypeId} {h : Nat} {a1 a2 a3 : Option Addr} {n1 c1 n2 c2 n3 c3 : Nat} {l1 l2 l3 : List Int} (ha : At w h #[.slice a1 n1 c1, .slice a2 n2 c2, .slice a3 n3 c3] t) (h1 : RdI .u8 w a1 c1 l1) (h2 : RdI .u8 w a2 c2 l2) (h3 : RdI .u8 w a3 c3 l3) (e1 : l1.length = n1) (e2 : l2.length = n2) (e3 : l3.length = n3) : RdII .u8 w (some ⟨h, 0, none⟩) 3 [l1, l2, l3] := by
  subst e1 e2 e3
  exact rdii_lit [⟨a1, c1, l1⟩, ⟨a2, c2, l2⟩, ⟨a3, c3, l3⟩] ha (fun s hs => by
    rcases List.mem_cons.1 hs with rfl | hs
    · exact h1
    · rcases List.mem_cons.1 hs with rfl | hs
      · exact h2
      · obtain rfl := List.mem_singleton.1 hs; exact h3) (by simp)
theorem wordB_mod (n : Int) : wordB (n % 4294967296) = wordB n := by
  unfold wordB
  rw [show n % 4294967296 % 256 = n % 256 by omega, show n % 4294967296 / 256 % 256 = n / 256 % 256 by omega, show n % 4294967296 / 65536 % 256 = n / 65536 % 256 by omega, show n % 4294967296 / 16777216 % 256 = n / 16777216 % 256 by omega]
/-- 'add' of one, two, three. -/
theorem add1 {n : Nat} {t : TypeId} {h : Nat} {a1 : Option Addr} {n1 c1 : Nat} {l1 : List Int} (A : AccN w0 w g n l) (ha : At w h #[.slice a1 n1 c1] t) (h1 : RdI .u8 w a1 c1 l1) (e1 : l1.length = n1) (hs : n1 ≤ 1000) (hn : n ≤ 3000000) :
    Calls Try.prog 62 #[.slice (some ⟨h, 0, none⟩) 1 1, .pointer (some ⟨g, 0, none⟩)] w fun e w' => e = .returned (.tuple #[]) ∧ Adds w0 w g l l1 w' := by
  have := add_walk A.acc (some ⟨h, 0, none⟩) [l1] 1 1 (rdii1 ha h1 e1) rfl (by simp; omega) (Nat.le_trans A.len hn) (fun x hx => by
    simp only [List.flatten_cons, List.flatten_nil, List.append_nil] at hx
    exact bd_u8 (h1.bd x hx))
  simpa using this
theorem add2 {n : Nat} {t : TypeId} {h : Nat} {a1 a2 : Option Addr} {n1 c1 n2 c2 : Nat} {l1 l2 : List Int} (A : AccN w0 w g n l) (ha : At w h #[.slice a1 n1 c1, .slice a2 n2 c2] t) (h1 : RdI .u8 w a1 c1 l1) (h2 : RdI .u8 w a2 c2 l2) (e1 : l1.length = n1) (e2 : l2.length = n2) (hs : n1 + n2 ≤ 1000) (hn : n ≤ 3000000) :
    Calls Try.prog 62 #[.slice (some ⟨h, 0, none⟩) 2 2, .pointer (some ⟨g, 0, none⟩)] w fun e w' => e = .returned (.tuple #[]) ∧ Adds w0 w g l (l1 ++ l2) w' := by
  have := add_walk A.acc (some ⟨h, 0, none⟩) [l1, l2] 2 2 (rdii2 ha h1 h2 e1 e2) rfl (by simp; omega) (Nat.le_trans A.len hn) (fun x hx => by
    simp only [List.flatten_cons, List.flatten_nil, List.append_nil, List.mem_append] at hx
    rcases hx with hx | hx
    · exact bd_u8 (h1.bd x hx)
    · exact bd_u8 (h2.bd x hx))
  simpa using this
theorem add3 {n : Nat} {t : TypeId} {h : Nat} {a1 a2 a3 : Option Addr} {n1 c1 n2 c2 n3 c3 : Nat} {l1 l2 l3 : List Int} (A : AccN w0 w g n l) (ha : At w h #[.slice a1 n1 c1, .slice a2 n2 c2, .slice a3 n3 c3] t) (h1 : RdI .u8 w a1 c1 l1) (h2 : RdI .u8 w a2 c2 l2) (h3 : RdI .u8 w a3 c3 l3) (e1 : l1.length = n1) (e2 : l2.length = n2) (e3 : l3.length = n3) (hs : n1 + n2 + n3 ≤ 1000) (hn : n ≤ 3000000) :
    Calls Try.prog 62 #[.slice (some ⟨h, 0, none⟩) 3 3, .pointer (some ⟨g, 0, none⟩)] w fun e w' => e = .returned (.tuple #[]) ∧ Adds w0 w g l (l1 ++ (l2 ++ l3)) w' := by
  have := add_walk A.acc (some ⟨h, 0, none⟩) [l1, l2, l3] 3 3 (rdii3 ha h1 h2 h3 e1 e2 e3) rfl (by simp; omega) (Nat.le_trans A.len hn) (fun x hx => by
    simp only [List.flatten_cons, List.flatten_nil, List.append_nil, List.mem_append] at hx
    rcases hx with hx | hx | hx
    · exact bd_u8 (h1.bd x hx)
    · exact bd_u8 (h2.bd x hx)
    · exact bd_u8 (h3.bd x hx))
  simpa using this
end Go.Proofs.Ytfnibpkojhgflaa
