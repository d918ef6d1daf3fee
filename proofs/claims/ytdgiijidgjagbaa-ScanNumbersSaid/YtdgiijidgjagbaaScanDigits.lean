/- Contract: the closure that writes digits. Printed by bin/gen_scandigits.py. -/
import Derived.Test.YtdgiijidgjagbaaScanDig
import Derived.Test.YtdgiijidgjagbaaScanNew
import Derived.Test.YtdgiijidgjagbaaScanInv
namespace Go.Proofs.Ytdgiijidgjagbaa
set_option linter.unusedVariables false
set_option linter.unusedSimpArgs false
open Go.RowKit

theorem et_u8 : ET Try.prog 23 5 (.int .u8 0) 1 1 := ET.of Try.underlying23 (by kernel_rfl) (by decide) (by decide)
theorem ints_one' (l : List Int) : ∀ u ∈ l.map (Value.int .u8), u.oneCell' = true := ints_one .u8 l
theorem own_litB {w : World} {g B : Nat} {e : TypeId} {xs : List Value} (h : At w g xs.toArray e) (n : Nat) (hn : xs.length = n) (hm : n ≤ maxLen) (hB : B ≤ g) : w.ownsRow B e 1 (.slice (some ⟨g, 0, none⟩) n n) n xs :=
  ⟨by omega, .inr ⟨g, n, xs.toArray, rfl, hB, h, Nat.le_refl _, hm, by simp [hn], by simp [← hn]⟩⟩
theorem dig_zero {x b d : Nat} (h0 : ¬ 0 < x) (h : x % b = d) : ¬ (9 : Int) < d := by
  have h1 : x = 0 := by omega
  subst h1; rw [Nat.zero_mod] at h; omega
theorem dig_below {w wr w8 : World} {o : Obj} (hb : Below w.heap.size w wr) (h : (wr.alloc o).grownBy w8 (some wr.heap.size)) : Below w.heap.size w w8 := by
  have h1 : Below w.heap.size w (wr.alloc o) := bel_then hb (bel1 wr o)
  refine ⟨h.os.trans h1.os, h.tape.trans h1.tape, h.output.trans h1.output, Nat.le_trans h1.size h.size, fun k hk => ?_⟩
  refine (h.block k (Nat.lt_of_lt_of_le hk h1.size) (fun e => ?_)).trans (h1.block k hk)
  have := Option.some.inj e; have := hb.size; omega
theorem dig_chars {x b d : Nat} {ds : List Nat} {c : Int} (hd : x % b = d) (hc : dc d = c) : (chars (x % b :: ds)).map (Value.int .u8) = [.int .u8 c] ++ (chars ds).map (Value.int .u8) := by
  rw [hd]; show Value.int .u8 (dc d) :: _ = _; rw [hc]; rfl
theorem dig_own {w : World} {B : Nat} {e : TypeId} {v : Value} {x : Nat} {ds : List Nat} {xs : List Value} (hx : (chars (x :: ds)).map (Value.int .u8) = xs) (h : w.ownsRow B e 1 v (1 + ds.length) xs) : w.ownsRow B e 1 v (x :: ds).length ((chars (x :: ds)).map (Value.int .u8)) := by
  rw [hx, List.length_cons, Nat.add_comm]; exact h
def DigIs (β u : Nat) (w : World) (e : Ending) (w' : World) : Prop :=
  ∃ V ds, e = .returned V ∧ DigAt β u 0 ds ∧ ds ≠ [] ∧ ds.length ≤ 10 ∧ (β = 16 → ds.length ≤ 8) ∧ w'.ownsRow w.heap.size 5 1 V ds.length ((chars ds).map (Value.int .u8)) ∧ Below w.heap.size w w'

set_option maxRecDepth 20000 in
set_option maxHeartbeats 8000000 in
theorem digits10 (u : Nat) (hu : u < 4294967296) (w : World) :
    Calls Try.prog 11 #[.int .u64 u, .int .u64 10] w (DigIs 10 u w) := by
  go_enter Try.func11, Try.ntmps11
  go_wp2
  go_loopg [0, 5] 11 (fun gk xv V wr => ∃ (x : Nat) (ds : List Nat), xv = .int .u64 x ∧ DigAt 10 u x ds ∧ x ≤ u ∧ ds.length ≤ 10 ∧ ds.length ≤ 10 ∧ (11 - ds.length ≤ gk) ∧ wr.ownsRow w.heap.size 5 1 V ds.length ((chars ds).map (Value.int .u8)) ∧ Below w.heap.size w wr)
  case atStart => exact ⟨u, [], rfl, DigAt.start _ u, Nat.le_refl _, by decide, by decide, by decide, World.ownsRow_nil _ _ _ _, Below.refl _ _⟩
  case round =>
    obtain ⟨x, ds, rfl, hd, hxu, hl, hl8, hgk, hv, hb⟩ := hrel
    have HD := Lib.hid hd
    have HV := Lib.hid hv
    have HB := Lib.hid hb
    have HG := Lib.hid hgk
    have HXU := Lib.hid hxu
    have HLL := Lib.hid hl
    have HL := Lib.hid hl8
    have HSZ := Lib.hid hb.size
    obtain ⟨p, c, rfl, hrd⟩ := RdC.own hv
    have HRD := Lib.hid hrd
    have x1 : (0 : Int) ≤ x := by omega
    have x2 : (x : Int) < 4294967296 := by omega
    by_cases h0 : 0 < x
    · have h0' : (0 : Int) < x := by omega
      have hls : ds.length < 10 := hd.short10 hu h0
      obtain ⟨d, hdd⟩ : ∃ d, x % 10 = d := ⟨_, rfl⟩
      have hd1 : (x : Int) % 10 = (d : Int) := by omega
      have d1 : (0 : Int) ≤ d := by omega
      have d2 : (d : Int) < 10 := by omega
      have HDD := Lib.hid hdd
      have HN := Lib.hid (HD.out.next (by decide))
      have HL8 := Lib.hid hls
      have HLS : Hid (ds.length < 10) := Lib.hid (by omega)
      have hle1 := Lib.hid (show (1 + ds.length) * 1 ≤ 140737488355328 by omega)
      have hle2 := Lib.hid (show 1 + ds.length ≤ 140737488355328 by omega)
      clear hd hxu hl hl8 hgk hv hb hrd hdd hls
      have h9' : ¬ (9 : Int) < d := by omega
      have hdc : dc d = 48 + (d : Int) := if_neg (by omega)
      have HDC := Lib.hid hdc
      clear hdc
      go_wp2_with (at_builtin; refine append_at rfl (.tmp 27) (.tmp 28) et_u8 rfl w.heap.size rfl (own_litB (xs := [.int .u8 (48 + (d : Int))]) (At.new wr #[.int .u8 (48 + (d : Int))] _) 1 rfl (by unfold maxLen; omega) HSZ.out) rfl (HRD.out.below (bel1 wr (.cells #[.int .u8 (48 + (d : Int))] 5)) (Nat.le_refl _)) (by simp [chars]) (ints_one' _) hle1.out hle2.out (Nat.le_trans HSZ.out (bel1 wr _).size) ?_; intro v4 w8 own4 gr4 at4; obtain ⟨a4, c4, rfl, rd4⟩ := RdC.own own4; have HO4 := Lib.hid own4; have HG4 := Lib.hid gr4; clear own4 gr4 at4 rd4)
      have HBB := Lib.hid (dig_below HB.out HG4.out)
      go_roundg (gk - 1)
      case measure => have := HG.out; have := HLS.out; omega
      case rel => exact ⟨x / 10, x % 10 :: ds, rfl, HN.out, by have := HXU.out; omega, by have := HLS.out; simp only [List.length_cons]; omega, by have := HL8.out; simp only [List.length_cons]; omega, by have := HG.out; simp only [List.length_cons]; omega, dig_own (dig_chars HDD.out HDC.out) HO4.out, HBB.out⟩
    · have h0' : ¬ (0 : Int) < x := by omega
      by_cases hds : ds = []
      · have hne' : ((ds.length : Int) == 0) = true := by rw [hds]; rfl
        have hls : ds.length < 10 := by rw [hds]; decide
        obtain ⟨d, hdd⟩ : ∃ d, x % 10 = d := ⟨_, rfl⟩
        have hd1 : (x : Int) % 10 = (d : Int) := by omega
        have d1 : (0 : Int) ≤ d := by omega
        have d2 : (d : Int) < 10 := by omega
        have HDD := Lib.hid hdd
        have HN := Lib.hid (HD.out.next (by decide))
        have HL8 := Lib.hid hls
        have HLS : Hid (ds.length < 10) := Lib.hid (by omega)
        have hle1 := Lib.hid (show (1 + ds.length) * 1 ≤ 140737488355328 by omega)
        have hle2 := Lib.hid (show 1 + ds.length ≤ 140737488355328 by omega)
        clear hd hxu hl hl8 hgk hv hb hrd hdd hls hds
        have h9' : ¬ (9 : Int) < d := dig_zero h0 HDD.out
        have hdc : dc d = 48 + (d : Int) := if_neg (by omega)
        have HDC := Lib.hid hdc
        clear hdc
        go_wp2_with (at_builtin; refine append_at rfl (.tmp 27) (.tmp 28) et_u8 rfl w.heap.size rfl (own_litB (xs := [.int .u8 (48 + (d : Int))]) (At.new wr #[.int .u8 (48 + (d : Int))] _) 1 rfl (by unfold maxLen; omega) HSZ.out) rfl (HRD.out.below (bel1 wr (.cells #[.int .u8 (48 + (d : Int))] 5)) (Nat.le_refl _)) (by simp [chars]) (ints_one' _) hle1.out hle2.out (Nat.le_trans HSZ.out (bel1 wr _).size) ?_; intro v4 w8 own4 gr4 at4; obtain ⟨a4, c4, rfl, rd4⟩ := RdC.own own4; have HO4 := Lib.hid own4; have HG4 := Lib.hid gr4; clear own4 gr4 at4 rd4)
        have HBB := Lib.hid (dig_below HB.out HG4.out)
        go_roundg (gk - 1)
        case measure => have := HG.out; have := HLS.out; omega
        case rel => exact ⟨x / 10, x % 10 :: ds, rfl, HN.out, by have := HXU.out; omega, by have := HLS.out; simp only [List.length_cons]; omega, by have := HL8.out; simp only [List.length_cons]; omega, by have := HG.out; simp only [List.length_cons]; omega, dig_own (dig_chars HDD.out HDC.out) HO4.out, HBB.out⟩
      · have hne' : ((ds.length : Int) == 0) = false := by simp; exact hds
        have hx0 : x = 0 := by omega
        subst hx0
        have HDS := Lib.hid hds
        clear hd hxu hl hl8 hgk hv hb hrd hds
        go_wp2
        go_ret
        exact ⟨_, ds, rfl, HD.out, HDS.out, HLL.out, fun h => by have := HL.out; omega, HV.out, HB.out⟩

set_option maxRecDepth 20000 in
set_option maxHeartbeats 8000000 in
theorem digits16 (u : Nat) (hu : u < 4294967296) (w : World) :
    Calls Try.prog 11 #[.int .u64 u, .int .u64 16] w (DigIs 16 u w) := by
  go_enter Try.func11, Try.ntmps11
  go_wp2
  go_loopg [0, 5] 11 (fun gk xv V wr => ∃ (x : Nat) (ds : List Nat), xv = .int .u64 x ∧ DigAt 16 u x ds ∧ x ≤ u ∧ ds.length ≤ 10 ∧ ds.length ≤ 8 ∧ (11 - ds.length ≤ gk) ∧ wr.ownsRow w.heap.size 5 1 V ds.length ((chars ds).map (Value.int .u8)) ∧ Below w.heap.size w wr)
  case atStart => exact ⟨u, [], rfl, DigAt.start _ u, Nat.le_refl _, by decide, by decide, by decide, World.ownsRow_nil _ _ _ _, Below.refl _ _⟩
  case round =>
    obtain ⟨x, ds, rfl, hd, hxu, hl, hl8, hgk, hv, hb⟩ := hrel
    have HD := Lib.hid hd
    have HV := Lib.hid hv
    have HB := Lib.hid hb
    have HG := Lib.hid hgk
    have HXU := Lib.hid hxu
    have HLL := Lib.hid hl
    have HL := Lib.hid hl8
    have HSZ := Lib.hid hb.size
    obtain ⟨p, c, rfl, hrd⟩ := RdC.own hv
    have HRD := Lib.hid hrd
    have x1 : (0 : Int) ≤ x := by omega
    have x2 : (x : Int) < 4294967296 := by omega
    by_cases h0 : 0 < x
    · have h0' : (0 : Int) < x := by omega
      have hls : ds.length < 8 := hd.short hu h0
      obtain ⟨d, hdd⟩ : ∃ d, x % 16 = d := ⟨_, rfl⟩
      have hd1 : (x : Int) % 16 = (d : Int) := by omega
      have d1 : (0 : Int) ≤ d := by omega
      have d2 : (d : Int) < 16 := by omega
      have HDD := Lib.hid hdd
      have HN := Lib.hid (HD.out.next (by decide))
      have HL8 := Lib.hid hls
      have HLS : Hid (ds.length < 10) := Lib.hid (by omega)
      have hle1 := Lib.hid (show (1 + ds.length) * 1 ≤ 140737488355328 by omega)
      have hle2 := Lib.hid (show 1 + ds.length ≤ 140737488355328 by omega)
      clear hd hxu hl hl8 hgk hv hb hrd hdd hls
      by_cases h9 : 9 < d
      · have h9' : (9 : Int) < d := by omega
        have hdc : dc d = 65 + (d : Int) - 10 := by unfold dc; rw [if_pos (by omega)]; omega
        have HDC := Lib.hid hdc
        clear hdc
        go_wp2_with (at_builtin; refine append_at rfl (.tmp 27) (.tmp 28) et_u8 rfl w.heap.size rfl (own_litB (xs := [.int .u8 (65 + (d : Int) - 10)]) (At.new wr #[.int .u8 (65 + (d : Int) - 10)] _) 1 rfl (by unfold maxLen; omega) HSZ.out) rfl (HRD.out.below (bel1 wr (.cells #[.int .u8 (65 + (d : Int) - 10)] 5)) (Nat.le_refl _)) (by simp [chars]) (ints_one' _) hle1.out hle2.out (Nat.le_trans HSZ.out (bel1 wr _).size) ?_; intro v4 w8 own4 gr4 at4; obtain ⟨a4, c4, rfl, rd4⟩ := RdC.own own4; have HO4 := Lib.hid own4; have HG4 := Lib.hid gr4; clear own4 gr4 at4 rd4)
        have HBB := Lib.hid (dig_below HB.out HG4.out)
        go_roundg (gk - 1)
        case measure => have := HG.out; have := HLS.out; omega
        case rel => exact ⟨x / 16, x % 16 :: ds, rfl, HN.out, by have := HXU.out; omega, by have := HLS.out; simp only [List.length_cons]; omega, by have := HL8.out; simp only [List.length_cons]; omega, by have := HG.out; simp only [List.length_cons]; omega, dig_own (dig_chars HDD.out HDC.out) HO4.out, HBB.out⟩
      · have h9' : ¬ (9 : Int) < d := by omega
        have hdc : dc d = 48 + (d : Int) := if_neg (by omega)
        have HDC := Lib.hid hdc
        clear hdc
        go_wp2_with (at_builtin; refine append_at rfl (.tmp 27) (.tmp 28) et_u8 rfl w.heap.size rfl (own_litB (xs := [.int .u8 (48 + (d : Int))]) (At.new wr #[.int .u8 (48 + (d : Int))] _) 1 rfl (by unfold maxLen; omega) HSZ.out) rfl (HRD.out.below (bel1 wr (.cells #[.int .u8 (48 + (d : Int))] 5)) (Nat.le_refl _)) (by simp [chars]) (ints_one' _) hle1.out hle2.out (Nat.le_trans HSZ.out (bel1 wr _).size) ?_; intro v4 w8 own4 gr4 at4; obtain ⟨a4, c4, rfl, rd4⟩ := RdC.own own4; have HO4 := Lib.hid own4; have HG4 := Lib.hid gr4; clear own4 gr4 at4 rd4)
        have HBB := Lib.hid (dig_below HB.out HG4.out)
        go_roundg (gk - 1)
        case measure => have := HG.out; have := HLS.out; omega
        case rel => exact ⟨x / 16, x % 16 :: ds, rfl, HN.out, by have := HXU.out; omega, by have := HLS.out; simp only [List.length_cons]; omega, by have := HL8.out; simp only [List.length_cons]; omega, by have := HG.out; simp only [List.length_cons]; omega, dig_own (dig_chars HDD.out HDC.out) HO4.out, HBB.out⟩
    · have h0' : ¬ (0 : Int) < x := by omega
      by_cases hds : ds = []
      · have hne' : ((ds.length : Int) == 0) = true := by rw [hds]; rfl
        have hls : ds.length < 8 := by rw [hds]; decide
        obtain ⟨d, hdd⟩ : ∃ d, x % 16 = d := ⟨_, rfl⟩
        have hd1 : (x : Int) % 16 = (d : Int) := by omega
        have d1 : (0 : Int) ≤ d := by omega
        have d2 : (d : Int) < 16 := by omega
        have HDD := Lib.hid hdd
        have HN := Lib.hid (HD.out.next (by decide))
        have HL8 := Lib.hid hls
        have HLS : Hid (ds.length < 10) := Lib.hid (by omega)
        have hle1 := Lib.hid (show (1 + ds.length) * 1 ≤ 140737488355328 by omega)
        have hle2 := Lib.hid (show 1 + ds.length ≤ 140737488355328 by omega)
        clear hd hxu hl hl8 hgk hv hb hrd hdd hls hds
        have h9' : ¬ (9 : Int) < d := dig_zero h0 HDD.out
        have hdc : dc d = 48 + (d : Int) := if_neg (by omega)
        have HDC := Lib.hid hdc
        clear hdc
        go_wp2_with (at_builtin; refine append_at rfl (.tmp 27) (.tmp 28) et_u8 rfl w.heap.size rfl (own_litB (xs := [.int .u8 (48 + (d : Int))]) (At.new wr #[.int .u8 (48 + (d : Int))] _) 1 rfl (by unfold maxLen; omega) HSZ.out) rfl (HRD.out.below (bel1 wr (.cells #[.int .u8 (48 + (d : Int))] 5)) (Nat.le_refl _)) (by simp [chars]) (ints_one' _) hle1.out hle2.out (Nat.le_trans HSZ.out (bel1 wr _).size) ?_; intro v4 w8 own4 gr4 at4; obtain ⟨a4, c4, rfl, rd4⟩ := RdC.own own4; have HO4 := Lib.hid own4; have HG4 := Lib.hid gr4; clear own4 gr4 at4 rd4)
        have HBB := Lib.hid (dig_below HB.out HG4.out)
        go_roundg (gk - 1)
        case measure => have := HG.out; have := HLS.out; omega
        case rel => exact ⟨x / 16, x % 16 :: ds, rfl, HN.out, by have := HXU.out; omega, by have := HLS.out; simp only [List.length_cons]; omega, by have := HL8.out; simp only [List.length_cons]; omega, by have := HG.out; simp only [List.length_cons]; omega, dig_own (dig_chars HDD.out HDC.out) HO4.out, HBB.out⟩
      · have hne' : ((ds.length : Int) == 0) = false := by simp; exact hds
        have hx0 : x = 0 := by omega
        subst hx0
        have HDS := Lib.hid hds
        clear hd hxu hl hl8 hgk hv hb hrd hds
        go_wp2
        go_ret
        exact ⟨_, ds, rfl, HD.out, HDS.out, HLL.out, fun h => by have := HL.out; omega, HV.out, HB.out⟩

end Go.Proofs.Ytdgiijidgjagbaa
