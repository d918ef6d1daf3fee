/- Contract of word.Of: the words of bytes. -/
import Derived.Test.YtomenhpdkghlgaaDoorWordBytes
import Derived.Test.YtomenhpdkghlgaaDoorMixR
namespace Go.Proofs.YtomenhpdkghlgaaDoor
set_option linter.unusedVariables false
set_option linter.unusedSimpArgs false
open Go.RowKit Go.Sort Go.Lib

/-- the words of bytes, four each. -/
def wordsL : List Int → List Int
  | a :: b :: c :: d :: r => (a + 256 * b + 65536 * c + 16777216 * d) :: wordsL r
  | _ => []
theorem wordsL_len : ∀ (l : List Int), (wordsL l).length = l.length / 4
  | [] => rfl
  | [_] => by simp [wordsL]
  | [_, _] => by simp [wordsL]
  | [_, _, _] => by simp [wordsL]
  | a :: b :: c :: d :: r => by simp [wordsL, wordsL_len r]; omega
theorem bytes_words : ∀ (l : List Int), l.length % 4 = 0 → (∀ x ∈ l, 0 ≤ x ∧ x < 256) → bytesL (wordsL l) = l
  | [], _, _ => rfl
  | [_], h, _ => by simp at h
  | [_, _], h, _ => by simp at h
  | [_, _, _], h, _ => by simp at h
  | a :: b :: c :: d :: r, h, hb => by
    have ih := bytes_words r (by simp at h; omega) (fun x hx => hb x (by simp [hx]))
    have h1 := hb a (by simp)
    have h2 := hb b (by simp)
    have h3 := hb c (by simp)
    have h4 := hb d (by simp)
    unfold bytesL at ih ⊢
    rw [wordsL, List.flatMap_cons, ih]
    simp only [word4, List.cons_append, List.nil_append, List.cons.injEq, and_true]
    refine ⟨by omega, by omega, by omega, by omega⟩
theorem words_bytes : ∀ (l : List Int), (∀ x ∈ l, 0 ≤ x ∧ x < 4294967296) → wordsL (bytesL l) = l
  | [], _ => rfl
  | a :: l, h => by
    have h1 := h a (by simp)
    have ih := words_bytes l (fun x hx => h x (by simp [hx]))
    unfold bytesL at ih ⊢
    rw [List.flatMap_cons]
    simp only [word4, List.cons_append, List.nil_append, wordsL, ih, List.cons.injEq, and_true]
    omega

theorem or4 {a b c d : Int} (ha : 0 ≤ a ∧ a < 256) (hb : 0 ≤ b ∧ b < 256) (hc : 0 ≤ c ∧ c < 256) (hd : 0 ≤ d ∧ d < 256) :
    bits .or .u32 a (b * 256) = a + 256 * b ∧ bits .or .u32 (a + 256 * b) (c * 65536) = a + 256 * b + 65536 * c ∧ bits .or .u32 (a + 256 * b + 65536 * c) (d * 16777216) = a + 256 * b + 65536 * c + 16777216 * d := by
  obtain ⟨a, rfl⟩ := Int.eq_ofNat_of_zero_le ha.1
  obtain ⟨b, rfl⟩ := Int.eq_ofNat_of_zero_le hb.1
  obtain ⟨c, rfl⟩ := Int.eq_ofNat_of_zero_le hc.1
  obtain ⟨d, rfl⟩ := Int.eq_ofNat_of_zero_le hd.1
  refine ⟨?_, ?_, ?_⟩
  · rw [show ((b : Int) * 256) = ((b * 256 : Nat) : Int) from by omega, u32_or_nat _ _ (by omega) (by omega), Nat.or_comm, nat_join 8 _ _ (by omega) (by omega)]; omega
  · rw [show ((c : Int) * 65536) = ((c * 65536 : Nat) : Int) from by omega, show ((a : Int) + 256 * (b : Int)) = ((a + 256 * b : Nat) : Int) from by omega, u32_or_nat _ _ (by omega) (by omega), Nat.or_comm, nat_join 16 _ _ (by omega) (by omega)]; omega
  · rw [show ((d : Int) * 16777216) = ((d * 16777216 : Nat) : Int) from by omega, show ((a : Int) + 256 * (b : Int) + 65536 * (c : Int)) = ((a + 256 * b + 65536 * c : Nat) : Int) from by omega, u32_or_nat _ _ (by omega) (by omega), Nat.or_comm, nat_join 24 _ _ (by omega) (by omega)]; omega

theorem words_bd : ∀ (l : List Int), (∀ x ∈ l, 0 ≤ x ∧ x < 256) → ∀ x ∈ wordsL l, 0 ≤ x ∧ x < 4294967296
  | [], _ => fun x h => by simp [wordsL] at h
  | [_], _ => fun x h => by simp [wordsL] at h
  | [_, _], _ => fun x h => by simp [wordsL] at h
  | [_, _, _], _ => fun x h => by simp [wordsL] at h
  | a :: b :: c :: d :: r, hb => fun x hx => by
    have h1 := hb a (by simp)
    have h2 := hb b (by simp)
    have h3 := hb c (by simp)
    have h4 := hb d (by simp)
    rw [wordsL] at hx
    rcases List.mem_cons.1 hx with rfl | hx
    · omega
    · exact words_bd r (fun x hx => hb x (by simp [hx])) x hx
theorem four {l : List Int} (h0 : 0 < l.length) (h4 : l.length % 4 = 0) : ∃ a b c d r, l = a :: b :: c :: d :: r := by
  match l, h0, h4 with
  | a :: b :: c :: d :: r, _, _ => exact ⟨a, b, c, d, r, rfl⟩
  | [_], _, h => simp at h
  | [_, _], _, h => simp at h
  | [_, _, _], _, h => simp at h

theorem own_bel {B : Nat} {e : TypeId} {k : Nat} {v : Value} {n : Nat} {xs : List Value} {w w' : World} (h : w.ownsRow B e k v n xs) (hb : Below w.heap.size w w') : w'.ownsRow B e k v n xs :=
  h.kept (row := none) ⟨hb.os, hb.tape, hb.output, hb.size, fun j hj _ => hb.block j hj⟩ (by cases hv : v.ownBlock <;> simp)
theorem ke_cell {G : Nat → Prop} {w w' : World} {p : Addr} {v : Value} (h : Ke G w w') (hp : p.block < w.heap.size) (hG : ¬ G p.block) (hv : w.cell? p = some v) : w'.cell? p = some v := by
  unfold World.cell? at hv ⊢
  rw [h.block p.block hp hG]; exact hv
theorem ke_grown {B : Nat} {w w' : World} {row : Option Nat} (h : w.grownBy w' row) (hr : ∀ g, row = some g → B ≤ g) : Ke (fun i => B ≤ i) w w' :=
  ⟨h.os, h.tape, h.output, h.size, fun k hk hG => h.block k hk (fun e => hG (hr k e.symm))⟩
def sliceLen : Value → Nat
  | .slice _ n _ => n
  | _ => 0
def OfB (w : World) (l : List Int) (e : Ending) (w' : World) : Prop := ∃ a c, e = .returned (.tuple #[.slice a (wordsL l).length c, .int .i64 0]) ∧ RdI .u32 w' a c (wordsL l) ∧ Below w.heap.size w w'

set_option maxRecDepth 100000 in
set_option maxHeartbeats 4000000 in
theorem of_bytes (a : Option Addr) (l : List Int) (c : Nat) (w : World) (hr : RdI .u8 w a c l) (hn : l.length ≤ 1000000) (h4 : l.length % 4 = 0) : Calls Tryd.prog 33 #[.slice a l.length c] w (OfB w l) := by
  have hlen := hr.len
  have HR := Lib.hid hr
  have HU : Hid (∀ x ∈ l, 0 ≤ x ∧ x < 256) := fun x hx => bd_u8 (hr.bd x hx)
  clear hr
  have hrem : ((l.length : Int) % 4) = 0 := by omega
  go_enter Tryd.func33, Tryd.ntmps33
  go_wp2_with fail
  go_loopw [0, 4] (fun y v wr => ∃ (rest ws : List Int) (x : Option Addr) (cc : Nat), y = .slice x rest.length cc ∧ RdI .u8 w x cc rest ∧ rest.length % 4 = 0 ∧ ws.length + rest.length ≤ 1000000 ∧ ws ++ wordsL rest = wordsL l ∧ wr.ownsRow w.heap.size 22 1 v ws.length (ws.map (Value.int .u32)) ∧ Below w.heap.size w wr)
    (fun y _ _ => sliceLen y)
  case atStart => exact ⟨l, [], a, c, rfl, HR.out, h4, by simpa using hn, rfl, World.ownsRow_nil _ _ _ _, Below.refl _ _⟩
  case round =>
    obtain ⟨rest, ws, x, cc, rfl, hrr, hr4, hsz, hws, hown, hbel⟩ := hrel
    by_cases hpos : 0 < rest.length
    · obtain ⟨p0, p1, p2, p3, r, rfl⟩ := four hpos hr4
      obtain ⟨bb, o, hat, hcell⟩ := hrr.cells
      obtain ⟨rfl, hbb⟩ := hat hpos
      have b0 := hrr.u8 0 (by simp)
      have b1 := hrr.u8 1 (by simp)
      have b2 := hrr.u8 2 (by simp)
      have b3 := hrr.u8 3 (by simp)
      simp only [List.getD_cons_zero, List.getD_cons_succ] at b0 b1 b2 b3
      have k0 : w.cell? ⟨bb, o, none⟩ = some (.int .u8 p0) := hcell 0 (by simp)
      have k1 : w.cell? ⟨bb, o + 1, none⟩ = some (.int .u8 p1) := hcell 1 (by simp)
      have k2 : w.cell? ⟨bb, o + 2, none⟩ = some (.int .u8 p2) := hcell 2 (by simp)
      have k3 : w.cell? ⟨bb, o + 3, none⟩ = some (.int .u8 p3) := hcell 3 (by simp)
      have hdrop := hrr.drop 4 (by simp)
      have hcap := hrr.row.le
      have hcm := hrr.row.cap
      have hol := or4 b0 b1 b2 b3
      obtain ⟨n, hnn⟩ : ∃ n, n = (p0 :: p1 :: p2 :: p3 :: r).length := ⟨_, rfl⟩
      obtain ⟨q1, hq1⟩ : ∃ q, q = p0 + 256 * p1 := ⟨_, rfl⟩
      obtain ⟨q2, hq2⟩ : ∃ q, q = q1 + 65536 * p2 := ⟨_, rfl⟩
      obtain ⟨q3, hq3⟩ : ∃ q, q = q2 + 16777216 * p3 := ⟨_, rfl⟩
      have bq3 : 0 ≤ q3 ∧ q3 < 4294967296 := by omega
      rw [← hq1, ← hq2, ← hq3] at hol
      obtain ⟨o1, o2, o3⟩ := hol
      have hn4 : 4 ≤ n := by rw [hnn]; simp
      have hncc : n ≤ cc := by rw [hnn]; exact hcap
      have hw3 : ws ++ [q3] ++ wordsL r = wordsL l := by rw [← hws, wordsL, hq3, hq2, hq1]; simp
      have hsz2 : ws.length + n ≤ 1000000 := by rw [hnn]; exact hsz
      rw [← hnn]
      have HOW := Lib.hid hown
      have HB := Lib.hid hbel
      have HK := Lib.hid (And.intro k0 (And.intro k1 (And.intro k2 k3)))
      have HD := Lib.hid hdrop
      have HN := Lib.hid hnn
      have HR4 := Lib.hid hr4
      have HW := Lib.hid hw3
      have HCM := Lib.hid hcm
      clear hown hbel k0 k1 k2 k3 hdrop hnn hw3 hws hcell hat hrr hr4 hsz hpos hq1 hq2 hq3 hcap hcm
      go_wp2_with fail
      refine wp_region_mixK (fun i => w.heap.size ≤ i) [([0, 1, 2, 3, 4, 5, 6, 7, 8, 9, 10, 11, 12, 13, 14, 15, 16, 17, 18, 19, 20, 21, 22], 23), ([], 24)] [25] (by kernel_rfl) (by kernel_rfl) (fun _ _ d _ _ h => by cases d <;> exact h) ?_
      intro wd hbd
      have B1 := Lib.hid (bel_then HB.out hbd)
      have HOD := Lib.hid (own_bel HOW.out hbd)
      have l0 := fun (x : Later (Ke (fun i => w.heap.size ≤ i) wd)) => ke_cell (p := ⟨bb, o, none⟩) x.ok (Nat.lt_of_lt_of_le hbb B1.out.size) (Nat.not_le_of_lt hbb) ((B1.out.cell (p := ⟨bb, o, none⟩) hbb).trans HK.out.1)
      have l1 := fun (x : Later (Ke (fun i => w.heap.size ≤ i) wd)) => ke_cell (p := ⟨bb, o + 1, none⟩) x.ok (Nat.lt_of_lt_of_le hbb B1.out.size) (Nat.not_le_of_lt hbb) ((B1.out.cell (p := ⟨bb, o + 1, none⟩) hbb).trans HK.out.2.1)
      have l2 := fun (x : Later (Ke (fun i => w.heap.size ≤ i) wd)) => ke_cell (p := ⟨bb, o + 2, none⟩) x.ok (Nat.lt_of_lt_of_le hbb B1.out.size) (Nat.not_le_of_lt hbb) ((B1.out.cell (p := ⟨bb, o + 2, none⟩) hbb).trans HK.out.2.2.1)
      have l3 := fun (x : Later (Ke (fun i => w.heap.size ≤ i) wd)) => ke_cell (p := ⟨bb, o + 3, none⟩) x.ok (Nat.lt_of_lt_of_le hbb B1.out.size) (Nat.not_le_of_lt hbb) ((B1.out.cell (p := ⟨bb, o + 3, none⟩) hbb).trans HK.out.2.2.2)
      refine mixK_step ?_
      simp only [pickOps, nth]
      (repeat (go_big_quiet_step (fail)))
      refine wpQuiet_nil ?_
      clear l0 l1 l2 l3
      go_wp2_with fail
      refine ⟨Ke.below _ (bel1 wd _), mixK_step ?_⟩
      simp only [pickOps, nth]
      refine wpQuiet_nil ?_
      refine append_rd rfl (.tmp 14) (.tmp 37) et_u32 rfl w.heap.size rfl (HOD.out.alloc _) rfl (rd_lits _ _ _ (by simp)) (by simp) (by intro u hu; obtain rfl := List.mem_singleton.1 hu; rfl) (by first | omega | (simp; omega)) (by first | omega | (simp; omega)) (by have := B1.out.size; first | omega | (simp; omega)) ?_
      intro v' w1 hown1 hgrow
      have hke := ke_grown hgrow (fun g hg => (HOW.out.lt g hg).1)
      have B2 := Lib.hid ((B1.out.alloc B1.out.size (.cells #[.int .u32 q3] 22)).grown hgrow (by have := B1.out.size; simp; omega) (fun g hg => (HOW.out.lt g hg).1))
      have HO1 := Lib.hid hown1
      clear hown1 hgrow hbd
      refine ⟨hke, mixK_end ?_⟩
      clear hke
      simp only [pickOps, nth, Act.put, List.setIfInBounds_toArray, List.set_cons_succ, List.set_cons_zero]
      (repeat (go_big_quiet_step (fail)))
      refine wpQuiet_nil ?_
      go_wp2_with fail
      go_roundw
      case rel =>
        have hd1 := HD.out.1
        have hrl : (p0 :: p1 :: p2 :: p3 :: r).drop 4 = r := rfl
        rw [hrl] at hd1
        have hnr : n = r.length + 4 := by rw [HN.out]; rfl
        refine ⟨r, ws ++ [q3], _, _, by rw [hnr]; rfl, hd1, ?_, ?_, HW.out, ?_, B2.out⟩
        · have := HR4.out
          simp at this; omega
        · simp; omega
        · rw [List.length_append, List.map_append]; exact HO1.out
      case measure => simp [sliceLen]; omega
    · have hz : rest = [] := List.length_eq_zero_iff.1 (by omega)
      subst hz
      have e : ws = wordsL l := by rw [← hws]; simp [wordsL]
      rw [e] at hown
      obtain ⟨a', c', rfl, hrd⟩ := RdI.own (k := .u32) hown (fun y hy => bd_u32' (words_bd l HU.out y hy))
      have HRD := Lib.hid hrd
      have HB := Lib.hid hbel
      clear hown hrd hbel hws e
      go_wp2_with fail
      go_ret2
      exact ⟨_, _, rfl, HRD.out, HB.out⟩

theorem of_bad (a : Option Addr) (l : List Int) (c : Nat) (w : World) (hr : RdI .u8 w a c l) (h4 : l.length % 4 ≠ 0) : Calls Tryd.prog 33 #[.slice a l.length c] w fun e w' => e = .returned (.tuple #[.slice none 0 0, .int .i64 4]) ∧ w = w' := by
  have hlen := hr.len
  obtain ⟨n, hnn⟩ : ∃ n, n = l.length := ⟨_, rfl⟩
  rw [← hnn] at h4 hlen
  rw [← hnn]
  clear hnn hr
  have hb : ¬ ((n : Int) % 4) = 0 := by omega
  go_enter Tryd.func33, Tryd.ntmps33
  go_wp2_with fail
  go_ret2
  exact ⟨rfl, rfl⟩

end Go.Proofs.YtomenhpdkghlgaaDoor
