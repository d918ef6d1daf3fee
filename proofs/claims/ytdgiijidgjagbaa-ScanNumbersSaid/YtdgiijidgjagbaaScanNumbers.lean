/- Numbers, as they are written, are read. -/
import Derived.Test.YtdgiijidgjagbaaScanNumsPlain
import Derived.Test.YtdgiijidgjagbaaSepApp
namespace Go.Proofs.Ytdgiijidgjagbaa
set_option linter.unusedVariables false
set_option linter.unusedSimpArgs false
open Go.RowKit

def zarr (i n : Nat) : Array Value := ((List.replicate i (48 : Int) ++ List.replicate (n - i) 0).map (Value.int .u8)).toArray
theorem zarr_start (n : Nat) : madeCells (Value.int .u8 0).cells (n * 1) = zarr 0 n := by
  rw [Nat.mul_one]
  refine Array.toList_inj.1 ?_
  rw [show (Value.int .u8 0).cells = #[Value.int .u8 0] from rfl, toList_madeCells_one]
  simp [zarr]
theorem zarr_size {i n : Nat} (h : i ≤ n) : (zarr i n).size = n := by simp [zarr]; omega
theorem zarr_set {i n : Nat} (h : i < n) : (zarr i n).setIfInBounds i (.int .u8 48) = zarr (i + 1) n := by
  refine Array.toList_inj.1 ?_
  rw [Array.toList_setIfInBounds]
  unfold zarr
  rw [List.map_append, List.map_append, List.set_append_right _ _ (by simp), show n - i = (n - (i + 1)) + 1 by omega, List.replicate_succ]
  simp [List.replicate_succ']
theorem rd_at' {w : World} {g : Nat} {e : TypeId} {xs : List Value} {n : Nat} (h : At w g xs.toArray e) (hn : xs.length = n) (hm : n ≤ maxLen) : RdC w (some ⟨g, 0, none⟩) n n xs := by
  refine ⟨⟨g, 0, fun _ => ⟨rfl, h.lt⟩, fun j u hj => ?_⟩, (fun h => by cases h), Nat.le_refl _, hm⟩
  rw [Nat.zero_add, h.cell]; simpa using hj
theorem new_rd {w : World} {a : Option Addr} {k c : Nat} {xs : List Value} {l : List Int} (h : RdC w a k c xs) (hx : xs = l.map (Value.int .u8)) (hk : l.length = k) (hb : ∀ x ∈ l, IntKind.min .u8 ≤ x ∧ x ≤ IntKind.max .u8) (hl : k ≤ 65535) :
    Calls Try.prog 12 #[.slice a k c] w fun e w' => ∃ g, e = .returned (.pointer (some ⟨g, 0, none⟩)) ∧ Scn (· < w.heap.size) w' g (newS l) ∧ Below w.heap.size w w' := by
  subst hk; subst hx
  exact new_walk ⟨h, hb⟩ hl
theorem own_bel {w w' : World} {B : Nat} {e : TypeId} {size : Nat} {v : Value} {n : Nat} {xs : List Value} (h : w.ownsRow B e size v n xs) (k : Below w.heap.size w w') : w'.ownsRow B e size v n xs :=
  h.kept (row := none) ⟨k.os, k.tape, k.output, k.size, fun i hi _ => k.block i hi⟩ (Classical.em _)

theorem own_grow {w0 w w' : World} {e : TypeId} {size : Nat} {v : Value} {n : Nat} {xs : List Value} (hb : Below w0.heap.size w0 w) (h : w.ownsRow w0.heap.size e size v n xs) (g : w.grownBy w' v.ownBlock) : Below w0.heap.size w0 w' :=
  hb.trans ⟨g.os, g.tape, g.output, g.size, fun k hk => g.block k (Nat.lt_of_lt_of_le hk hb.size) (fun e => by have := (h.lt k e.symm).1; omega)⟩
structure Of32 (u : Nat) (n : Int) : Prop where
  out : u < 4294967296 ∧ n % 4294967296 = (u : Int) ∧ i32 u = n
theorem u_of {n : Int} (hn : IntKind.min .i32 ≤ n ∧ n ≤ IntKind.max .i32) : ∃ u : Nat, u < 4294967296 ∧ n % 4294967296 = (u : Int) ∧ i32 u = n := by
  have h1 : -2147483648 ≤ n := hn.1
  have h2 : n ≤ 2147483647 := hn.2
  refine ⟨(n % 4294967296).toNat, by omega, by omega, ?_⟩
  unfold i32
  split <;> omega

theorem zd_eq (j : Nat) (ds : List Nat) : [Value.int .u8 48] ++ (List.replicate j (48 : Int)).map (Value.int .u8) ++ (chars ds).map (Value.int .u8) = (zd (j + 1) ds).map (Value.int .u8) := by
  simp [zd, List.replicate_succ]
theorem hexH_sym {u : Nat} {n : Int} (h : Of32 u n) {ds : List Nat} (hd : DigAt 16 u 0 ds) (hl : ds.length ≤ 8) (j : Nat) : (newS (zd (j + 1) ds ++ [72])).sym = ⟨26, 0, n, 0, []⟩ := by
  rw [hex_new h.out.1 hd hl j (.inl rfl), if_neg (by omega), h.out.2.2]; rfl
theorem hexX_ok {u : Nat} {n : Int} (h : Of32 u n) {ds : List Nat} (hd : DigAt 16 u 0 ds) (hl : ds.length ≤ 8) (j : Nat) (hu : u ≤ 255) : (newS (zd (j + 1) ds ++ [88])).sym = ⟨27, 0, n, 0, []⟩ := by
  rw [hex_new h.out.1 hd hl j (.inr rfl), if_neg (by omega), h.out.2.2]; rfl
theorem hexX_no {u : Nat} {n : Int} (h : Of32 u n) {ds : List Nat} (hd : DigAt 16 u 0 ds) (hl : ds.length ≤ 8) (j : Nat) (hu : 255 < u) : (newS (zd (j + 1) ds ++ [88])).sym = ⟨0, 0, 0, 0, []⟩ := by
  rw [hex_new h.out.1 hd hl j (.inr rfl), if_pos ⟨rfl, hu⟩]; rfl
theorem dec_ok {u : Nat} {n : Int} (h : Of32 u n) {ds : List Nat} (hd : DigAt 10 u 0 ds) (hne : ds ≠ []) (j : Nat) (hu : u ≤ 2147483647) : (newS (zd j ds)).sym = ⟨26, 0, n, 0, []⟩ := by
  have e : (u : Int) = n := by have := h.out.2.2; unfold i32 at this; rw [if_pos (by omega)] at this; exact this
  rw [dec_new h.out.1 hd hne j, if_neg (by omega), e]
theorem dec_no {u : Nat} {n : Int} (h : Of32 u n) {ds : List Nat} (hd : DigAt 10 u 0 ds) (hne : ds ≠ []) (j : Nat) (hu : 2147483647 < u) : (newS (zd j ds)).sym = ⟨0, 0, 0, 0, []⟩ := by
  rw [dec_new h.out.1 hd hne j, if_pos hu]; rfl
theorem sym_lit {F : Nat → Prop} {w : World} {g : Nat} {s : Sc} {a v : Int} (H : Scn F w g s) (hx : s.sym = ⟨a, 0, v, 0, []⟩) :
    Calls Try.prog 13 #[.pointer (some ⟨g, 0, none⟩)] w fun e w' => e = .returned (.agg #[.int .i64 a, .int .i64 0, .int .i32 v, .int .i64 0, .string ⟨#[]⟩]) ∧ Below w.heap.size w w' := symbol_is H _ hx
/-- a letter behind digits. -/
theorem new_behind {w : World} {a : Option Addr} {m c : Nat} {k : Nat} {ds : List Nat} {t : Int} (h : RdC w a m c ((zd k ds).map (Value.int .u8) ++ [.int .u8 t])) (hm : m = k + ds.length + 1) (hd : ∀ d ∈ ds, d < 16) (ht : 0 ≤ t ∧ t < 256) (hl : m ≤ 65535) :
    Calls Try.prog 12 #[.slice a m c] w fun e w' => ∃ g, e = .returned (.pointer (some ⟨g, 0, none⟩)) ∧ Scn (· < w.heap.size) w' g (newS (zd k ds ++ [t])) ∧ Below w.heap.size w w' := by
  refine new_rd h (by simp) (by simp [zd_len, hm]) (fun x hx => ?_) hl
  rcases List.mem_append.1 hx with hx | hx
  · exact zd_bd hd x hx
  · rw [List.mem_singleton.1 hx]; exact bd_u8' ht
abbrev symZ : Value := .agg #[.int .i64 0, .int .i64 0, .int .i32 0, .int .i64 0, .string ⟨#[]⟩]
abbrev symC : Array Value := #[.int .i64 0, .int .i64 0, .int .i32 0, .int .i64 0, .string ⟨#[]⟩]

set_option maxRecDepth 20000 in
set_option maxHeartbeats 16000000 in
theorem numbers_law (n x : Int) (w : World) (hn : IntKind.min .i32 ≤ n ∧ n ≤ IntKind.max .i32) (hx : IntKind.min .i64 ≤ x ∧ x ≤ IntKind.max .i64) :
    Calls Try.prog 3 #[.int .i32 n, .int .i64 x] w fun e w' => e = .returned (.bool true) ∧ Below w.heap.size w w' := by
  by_cases hin : 0 ≤ x ∧ x ≤ 20
  · obtain ⟨k, rfl⟩ : ∃ k : Nat, x = k := ⟨x.toNat, by omega⟩
    have k1 : ¬ (k : Int) < 0 := by omega
    have k2 : ¬ (20 : Int) < k := by omega
    have k0 : (0 : Int) ≤ k := by omega
    have HK := Lib.hid (show k ≤ 20 by omega)
    clear hin hx
    obtain ⟨u, hu, hm, hi⟩ := u_of hn
    obtain ⟨U, hmod⟩ : ∃ U, n % 4294967296 = U := ⟨_, rfl⟩
    have hU : U = (u : Int) := hmod.symm.trans hm
    have u1 : 0 ≤ U := by omega
    have u2 : U < 4294967296 := by omega
    have D16 : ∀ w, Calls Try.prog 11 #[.int .u64 U, .int .u64 16] w (DigIs 16 u w) := fun w => by rw [hU]; exact digits16 u hu w
    have D10 : ∀ w, Calls Try.prog 11 #[.int .u64 U, .int .u64 10] w (DigIs 10 u w) := fun w => by rw [hU]; exact digits10 u hu w
    have HD16 := Lib.hid D16
    have HD10 := Lib.hid D10
    have HUU := Lib.hid hU
    have HU := Lib.hid hu
    have HI : Of32 u n := ⟨hu, hm, hi⟩
    have hcl : u ≤ 255 ∨ (255 < u ∧ u ≤ 2147483647) ∨ 2147483647 < u := by omega
    clear hu hi hn hm hU D16 D10
    go_enter Try.func3, Try.ntmps3
    go_wp2_with (at_make; refine make_sep rfl (.tmp 20) (.tmp 20) et_u8 rfl (Sep.nil w) k rfl rfl rfl (by have := HK.out; omega) (by have := HK.out; unfold maxLen; omega) ?_; intro w1 S1 b1 s1; have HS1 := Lib.hid (zarr_start k ▸ S1); have HB1 := Lib.hid b1; clear S1 b1 s1)
    go_loopg [6] k (fun gk idx wr => ∃ j : Nat, j ≤ k ∧ k - j ≤ gk ∧ idx = .int .i64 j ∧ Sep wr [(w.heap.size, zarr j k, 5)] ∧ Below w.heap.size w wr)
    case atStart => exact ⟨0, Nat.zero_le _, Nat.le_refl _, rfl, HS1.out, HB1.out⟩
    case round =>
      obtain ⟨j, hj, hgk, rfl, hs, hb⟩ := hrel
      have HJ := Lib.hid hj
      have HS := Lib.hid hs
      have HB := Lib.hid hb
      have HG := Lib.hid hgk
      have j1 : (0 : Int) ≤ j := by omega
      by_cases hjl : j < k
      · have j3 : (j : Int) < k := by omega
        clear hs hb hgk hj
        have HSZ := Lib.hid (zarr_size (Nat.le_of_lt hjl))
        have HSS := Lib.hid (zarr_set hjl)
        go_wp2_with (refine store1_sep rfl 5 (.tmp 29) (.const (.int .u8 48)) rfl HS.out 0 rfl rfl rfl (decide_eq_true (by rw [HSZ.out]; exact hjl)) (by kernel_rfl) rfl ?_; intro w3 S3 k3 s3; have HS3 := Lib.hid (HSS.out ▸ S3); have HK3 := Lib.hid k3; clear S3 k3 s3)
        have HB3 := Lib.hid (((Ke.below (fun i => w.heap.size ≤ i) HB.out).trans (HK3.out.mono (fun i _ e => Nat.le_of_eq (Eq.symm e)))).toBelow (fun i hi e => absurd e (Nat.not_le_of_lt hi)))
        go_roundg (gk - 1)
        case measure => have := HG.out; omega
        case rel => exact ⟨j + 1, hjl, by have := HG.out; omega, by go_num, HS3.out, HB3.out⟩
      · have hjk : j = k := by omega
        subst hjk
        have HZ := Lib.hid (rd_at' (xs := (List.replicate j (48 : Int)).map (Value.int .u8)) (n := j) (e := 5) (g := w.heap.size) (w := wr) (by have := hs.at 0 rfl; unfold zarr at this; rw [Nat.sub_self, List.replicate_zero, List.append_nil] at this; exact this) (by simp) (by have := HK.out; unfold maxLen; omega))
        clear hs hb hgk hj
        have HJK := HK
        -- BEGIN
        rcases hcl with hc | hc | hc
        · have HC := Lib.hid hc
          have hq1 : U ≤ 255 := by have := HUU.out; omega
          have hq2 : U < 2147483648 := by have := HUU.out; omega
          clear hc
          have f2 : True := trivial
          have f3 : True := trivial
          have f4 : True := trivial
          have f5 : True := trivial
          have f6 : True := trivial
          have f7 : True := trivial
          have f8 : True := trivial
          have f9 : True := trivial
          have f10 : True := trivial
          have hle2 := Lib.hid (show 1 + j ≤ 140737488355328 by have := HJK.out; omega)
          have f11 : True := trivial
          have f12 : True := trivial
          have f13 : True := trivial
          have f14 : True := trivial
          have f15 : True := trivial
          have f16 : True := trivial
          have f21 : True := trivial
          have f22 : True := trivial
          have f23 : True := trivial
          have f24 : True := trivial
          have f25 : True := trivial
          have f26 : True := trivial
          have f27 : True := trivial
          have hle21 := Lib.hid (show 0 + j ≤ 140737488355328 by have := HJK.out; omega)
          go_wp2_with (first | (have _f := f2; at_builtin; refine append_at rfl (.tmp 33) (.tmp 34) et_u8 rfl wr.heap.size rfl (own_litB (xs := [.int .u8 48]) (At.new wr #[.int .u8 48] _) 1 rfl (by unfold maxLen; omega) (Nat.le_refl _)) rfl (HZ.out.below (bel1 wr (.cells #[.int .u8 48] 5)) (Nat.le_refl _)) (by simp) (ints_one' _) (Nat.le_trans (Nat.le_of_eq (Nat.mul_one _)) hle2.out) hle2.out (bel1 wr _).size ?_; intro v2 w2 own2 gr2 at2; obtain ⟨a2, c2, rfl, rd2⟩ := RdC.own own2; have HO2 := Lib.hid own2; have HG2 := Lib.hid gr2; have HR2 := Lib.hid rd2; clear own2 gr2 at2 rd2 _f f2) | (have _f := f3; refine (HD16.out _).mono ?_; rintro e w3 ⟨V3, ds, rfl, hd, hne, hl10, hl8, own3, b3⟩; obtain ⟨a3, c3, rfl, rd3⟩ := RdC.own own3; have HD3 := Lib.hid hd; have HL := Lib.hid (hl8 rfl); have HR3 := Lib.hid rd3; have HK3 := Lib.hid b3; have hle4 := Lib.hid (show 1 + j + ds.length ≤ 140737488355328 by have := HJK.out; have := hl8 rfl; omega); have hle5 := Lib.hid (show 0 + (1 + j + ds.length) ≤ 140737488355328 by have := hle4.out; omega); have hle6 := Lib.hid (show 1 + j + ds.length + 1 ≤ 140737488355328 by have := HJK.out; have := hl8 rfl; omega); have hle7 := Lib.hid (show 1 + j + ds.length + 1 ≤ 65535 by have := HJK.out; have := hl8 rfl; omega); have HO2' := Lib.hid (own_bel HO2.out b3); clear hd hne hl10 hl8 own3 b3 rd3 _f f3) | (have _f := f4; at_builtin; refine append_at rfl (.tmp 35) (.tmp 38) et_u8 rfl wr.heap.size rfl HO2'.out rfl HR3.out (by simp [chars]) (ints_one' _) (Nat.le_trans (Nat.le_of_eq (Nat.mul_one _)) hle4.out) hle4.out (Nat.le_trans (dig_below (Below.refl _ _) HG2.out).size HK3.out.size) ?_; intro v4 w4 own4 gr4 at4; obtain ⟨a4, c4, rfl, rd4⟩ := RdC.own own4; have HO4 := Lib.hid own4; have HG4 := Lib.hid gr4; have HR4 := Lib.hid rd4; have HX4 := Lib.hid (zd_eq j ds ▸ rd4); clear own4 gr4 at4 rd4 _f f4) | (have _f := f5; at_builtin; refine append_at rfl (.const (.slice none 0 0)) (.tmp 40) et_u8 rfl w4.heap.size rfl (World.ownsRow_nil _ _ _ _) rfl HX4.out (by simp only [List.length_map, zd_len]; omega) (ints_one' _) (Nat.le_trans (Nat.le_of_eq (Nat.mul_one _)) hle5.out) hle5.out (Nat.le_refl _) ?_; intro v5 w5 own5 gr5 at5; rw [Nat.zero_add, List.nil_append] at own5; obtain ⟨a5, c5, rfl, rd5⟩ := RdC.own own5; have HO5 := Lib.hid own5; have HG5 := Lib.hid gr5; have HR5 := Lib.hid rd5; have HB5 := Lib.hid (own_grow (Below.refl _ _) (World.ownsRow_nil w4 w4.heap.size 5 1) gr5); clear own5 gr5 at5 rd5 _f f5) | (have _f := f6; at_builtin; refine append_at rfl (.tmp 41) (.tmp 42) et_u8 rfl w4.heap.size rfl (HO5.out.alloc _) rfl (rd_at' (xs := [Value.int .u8 72]) (n := 1) (At.new w5 _ _) rfl (by unfold maxLen; omega)) rfl (ints_one' [72]) (Nat.le_trans (Nat.le_of_eq (Nat.mul_one _)) hle6.out) hle6.out (Nat.le_trans HB5.out.size (bel1 w5 _).size) ?_; intro v6 w6 own6 gr6 at6; obtain ⟨a6, c6, rfl, rd6⟩ := RdC.own own6; have HO6 := Lib.hid own6; have HG6 := Lib.hid gr6; have HR6 := Lib.hid rd6; have HB6 := Lib.hid (own_grow (bel_then HB5.out (bel1 w5 _)) (HO5.out.alloc _) gr6); clear own6 gr6 at6 rd6 _f f6) | (have _f := f7; refine (new_behind HR6.out (k := j + 1) (by omega) HD3.out.lt (by decide) hle7.out).mono ?_; rintro e w7 ⟨g7, rfl, hs, b7⟩; have HS7 := Lib.hid hs; have HB7 := Lib.hid (bel_then HB6.out b7); have HY7 := Lib.hid (hexH_sym HI HD3.out HL.out j); clear hs b7 _f f7) | (have _f := f8; refine (sym_lit HS7.out HY7.out).mono ?_; rintro e w8 ⟨rfl, b8⟩; have HB8 := Lib.hid (bel_then HB7.out b8); clear b8 _f f8) | (have _f := f9; refine alloc_sep rfl 30 rfl (Sep.nil w8) (z := symZ) (cs := symC) (by kernel_rfl) rfl ?_; intro w9 S9 b9 s9; have HS9 := Lib.hid S9; have HB9 := Lib.hid b9; clear S9 b9 s9 _f f9) | (have _f := f10; refine store_sep rfl 30 (.tmp 11) (.tmp 46) rfl HS9.out 0 rfl rfl rfl rfl (by kernel_rfl) rfl ?_; intro w10 S10 k10 s10; have HB10 := Lib.hid (bel_then HB8.out (((Ke.below (· = w8.heap.size) HB9.out).trans k10).toBelow (fun i hi e => absurd e (Nat.ne_of_lt hi)))); have HX10 := Lib.hid (HX4.out.below HB10.out (Nat.le_refl _)); have c0 : w10.cell? ⟨w8.heap.size, 0, none⟩ = some (.int .i64 26) := ((S10.at 0 rfl).cell 0).trans rfl; have c2 : w10.cell? ⟨w8.heap.size, 2, none⟩ = some (.int .i32 n) := ((S10.at 0 rfl).cell 2).trans rfl; clear S10 k10 s10 _f f10) | (have _f := f11; at_builtin; refine append_at rfl (.const (.slice none 0 0)) (.tmp 56) et_u8 rfl w10.heap.size rfl (World.ownsRow_nil _ _ _ _) rfl HX10.out (by simp only [List.length_map, zd_len]; omega) (ints_one' _) (Nat.le_trans (Nat.le_of_eq (Nat.mul_one _)) hle5.out) hle5.out (Nat.le_refl _) ?_; intro v11 w11 own11 gr11 at11; rw [Nat.zero_add, List.nil_append] at own11; obtain ⟨a11, c11, rfl, rd11⟩ := RdC.own own11; have HO11 := Lib.hid own11; have HG11 := Lib.hid gr11; have HR11 := Lib.hid rd11; have HB11 := Lib.hid (own_grow (Below.refl _ _) (World.ownsRow_nil w10 w10.heap.size 5 1) gr11); clear own11 gr11 at11 rd11 _f f11) | (have _f := f12; at_builtin; refine append_at rfl (.tmp 57) (.tmp 58) et_u8 rfl w10.heap.size rfl (HO11.out.alloc _) rfl (rd_at' (xs := [Value.int .u8 88]) (n := 1) (At.new w11 _ _) rfl (by unfold maxLen; omega)) rfl (ints_one' [88]) (Nat.le_trans (Nat.le_of_eq (Nat.mul_one _)) hle6.out) hle6.out (Nat.le_trans HB11.out.size (bel1 w11 _).size) ?_; intro v12 w12 own12 gr12 at12; obtain ⟨a12, c12, rfl, rd12⟩ := RdC.own own12; have HO12 := Lib.hid own12; have HG12 := Lib.hid gr12; have HR12 := Lib.hid rd12; have HB12 := Lib.hid (own_grow (bel_then HB11.out (bel1 w11 _)) (HO11.out.alloc _) gr12); clear own12 gr12 at12 rd12 _f f12) | (have _f := f13; refine (new_behind HR12.out (k := j + 1) (by omega) HD3.out.lt (by decide) hle7.out).mono ?_; rintro e w13 ⟨g13, rfl, hs, b13⟩; have HS13 := Lib.hid hs; have HB13 := Lib.hid (bel_then HB12.out b13); have HY13 := Lib.hid (hexX_ok HI HD3.out HL.out j HC.out); clear hs b13 _f f13) | (have _f := f14; refine (sym_lit HS13.out HY13.out).mono ?_; rintro e w14 ⟨rfl, b14⟩; have HB14 := Lib.hid (bel_then HB13.out b14); clear b14 _f f14) | (have _f := f15; refine alloc_sep rfl 30 rfl (Sep.nil w14) (z := symZ) (cs := symC) (by kernel_rfl) rfl ?_; intro w15 S15 b15 s15; have HS15 := Lib.hid S15; have HB15 := Lib.hid b15; clear S15 b15 s15 _f f15) | (have _f := f16; refine store_sep rfl 30 (.tmp 12) (.tmp 62) rfl HS15.out 0 rfl rfl rfl rfl (by kernel_rfl) rfl ?_; intro w16 S16 k16 s16; have HB16 := Lib.hid (bel_then HB14.out (((Ke.below (· = w14.heap.size) HB15.out).trans k16).toBelow (fun i hi e => absurd e (Nat.ne_of_lt hi)))); have HX16 := Lib.hid (HX10.out.below HB16.out (Nat.le_refl _)); have e0 : w16.cell? ⟨w14.heap.size, 0, none⟩ = some (.int .i64 27) := ((S16.at 0 rfl).cell 0).trans rfl; have e2 : w16.cell? ⟨w14.heap.size, 2, none⟩ = some (.int .i32 n) := ((S16.at 0 rfl).cell 2).trans rfl; have HS16' := Lib.hid S16; have HB16' := Lib.hid (bel_then (bel_then (own_grow (bel_then (dig_below (Below.refl _ _) HG2.out) HK3.out) HO2'.out HG4.out) HB10.out) HB16.out); have HZ16 := Lib.hid (HZ.out.below HB16'.out (Nat.le_refl _)); clear c0 c2; clear S16 k16 s16 _f f16) | (have _f := f21; at_builtin; refine append_at rfl (.const (.slice none 0 0)) (.tmp 75) et_u8 rfl w16.heap.size rfl (World.ownsRow_nil _ _ _ _) rfl HZ16.out (by simp) (ints_one' _) (Nat.le_trans (Nat.le_of_eq (Nat.mul_one _)) hle21.out) hle21.out (Nat.le_refl _) ?_; intro v21 w21 own21 gr21 at21; rw [Nat.zero_add, List.nil_append] at own21; obtain ⟨a21, c21, rfl, rd21⟩ := RdC.own own21; have HO21 := Lib.hid own21; have HG21 := Lib.hid gr21; have HR21 := Lib.hid rd21; have HB21 := Lib.hid (own_grow (Below.refl _ _) (World.ownsRow_nil w16 w16.heap.size 5 1) gr21); clear own21 gr21 at21 rd21 _f f21) | (have _f := f22; refine (HD10.out _).mono ?_; rintro e w22 ⟨V22, es, rfl, hd, hne, hl10, hl8, own22, b22⟩; obtain ⟨a22, c22, rfl, rd22⟩ := RdC.own own22; have HD22 := Lib.hid hd; have HN22 := Lib.hid hne; have HL22 := Lib.hid hl10; have HR22 := Lib.hid rd22; have HB22 := Lib.hid (bel_then HB21.out b22); have HO21' := Lib.hid (own_bel HO21.out b22); have hle23 := Lib.hid (show j + es.length ≤ 140737488355328 by have := HJK.out; omega); have hle24 := Lib.hid (show j + es.length ≤ 65535 by have := HJK.out; omega); clear hd hne hl10 hl8 own22 b22 rd22 _f f22) | (have _f := f23; at_builtin; refine append_at rfl (.tmp 76) (.tmp 79) et_u8 rfl w16.heap.size rfl HO21'.out rfl HR22.out (by simp [chars]) (ints_one' _) (Nat.le_trans (Nat.le_of_eq (Nat.mul_one _)) hle23.out) hle23.out HB22.out.size ?_; intro v23 w23 own23 gr23 at23; obtain ⟨a23, c23, rfl, rd23⟩ := RdC.own own23; have HO23 := Lib.hid own23; have HG23 := Lib.hid gr23; have HR23 := Lib.hid rd23; have HB23 := Lib.hid (own_grow HB22.out HO21'.out gr23); clear own23 gr23 at23 rd23 _f f23) | (have _f := f24; refine (new_rd HR23.out (l := zd j es) (by simp [zd]) (zd_len _ _) (zd_bd (fun d hd => Nat.lt_trans (HD22.out.lt d hd) (by decide))) hle24.out).mono ?_; rintro e w24 ⟨g24, rfl, hs, b24⟩; have HS24 := Lib.hid hs; have HB24 := Lib.hid (bel_then HB23.out b24); have HY24 := Lib.hid (dec_ok HI HD22.out HN22.out j (by have := HC.out; omega)); clear hs b24 _f f24) | (have _f := f25; refine (sym_lit HS24.out HY24.out).mono ?_; rintro e w25 ⟨rfl, b25⟩; have HB25 := Lib.hid (bel_then HB24.out b25); have HS25 := Lib.hid (HS16'.out.bel (bel_then HB24.out b25)); clear b25 _f f25) | (have _f := f26; refine store_sep rfl 30 (.tmp 12) (.tmp 83) rfl HS25.out 0 rfl rfl rfl rfl (by kernel_rfl) rfl ?_; intro w26 S26 k26 s26; have HK26 := Lib.hid k26; clear e0 e2; have e0 : w26.cell? ⟨w14.heap.size, 0, none⟩ = some (.int .i64 26) := ((S26.at 0 rfl).cell 0).trans rfl; have e2 : w26.cell? ⟨w14.heap.size, 2, none⟩ = some (.int .i32 n) := ((S26.at 0 rfl).cell 2).trans rfl; clear S26 k26 s26 _f f26) | (have _f := f27; refine (known_walk _).mono ?_; rintro e w27 ⟨rfl, b27⟩; have HB27 := Lib.hid b27; clear b27 _f f27))
          have HBA := own_grow (bel_then (dig_below (Below.refl _ _) HG2.out) HK3.out) HO2'.out HG4.out
          have hsz : w.heap.size ≤ w14.heap.size := Nat.le_trans HB.out.size (Nat.le_trans HBA.size (Nat.le_trans HB10.out.size HB14.out.size))
          have KK := ((Ke.below (fun i => w.heap.size ≤ i) (bel_then HB.out HB16'.out)).trans (Ke.below _ HB25.out)).trans (HK26.out.mono (fun i _ e => Nat.le_trans hsz (Nat.le_of_eq (Eq.symm e))))
          have HBZ := Lib.hid ((KK.trans (Ke.below _ HB27.out)).toBelow (fun i hi e => absurd e (Nat.not_le_of_lt hi)))
          clear HBA hsz KK
          go_ret
          exact ⟨rfl, HBZ.out⟩
        · have HC := Lib.hid hc
          have hq1 : ¬ U ≤ 255 := by have := HUU.out; omega
          have hq2 : U < 2147483648 := by have := HUU.out; omega
          clear hc
          have f2 : True := trivial
          have f3 : True := trivial
          have f4 : True := trivial
          have f5 : True := trivial
          have f6 : True := trivial
          have f7 : True := trivial
          have f8 : True := trivial
          have f9 : True := trivial
          have f10 : True := trivial
          have hle2 := Lib.hid (show 1 + j ≤ 140737488355328 by have := HJK.out; omega)
          have f11 : True := trivial
          have f12 : True := trivial
          have f13 : True := trivial
          have f14 : True := trivial
          have f15 : True := trivial
          have f16 : True := trivial
          have f21 : True := trivial
          have f22 : True := trivial
          have f23 : True := trivial
          have f24 : True := trivial
          have f25 : True := trivial
          have f26 : True := trivial
          have f27 : True := trivial
          have hle21 := Lib.hid (show 0 + j ≤ 140737488355328 by have := HJK.out; omega)
          go_wp2_with (first | (have _f := f2; at_builtin; refine append_at rfl (.tmp 33) (.tmp 34) et_u8 rfl wr.heap.size rfl (own_litB (xs := [.int .u8 48]) (At.new wr #[.int .u8 48] _) 1 rfl (by unfold maxLen; omega) (Nat.le_refl _)) rfl (HZ.out.below (bel1 wr (.cells #[.int .u8 48] 5)) (Nat.le_refl _)) (by simp) (ints_one' _) (Nat.le_trans (Nat.le_of_eq (Nat.mul_one _)) hle2.out) hle2.out (bel1 wr _).size ?_; intro v2 w2 own2 gr2 at2; obtain ⟨a2, c2, rfl, rd2⟩ := RdC.own own2; have HO2 := Lib.hid own2; have HG2 := Lib.hid gr2; have HR2 := Lib.hid rd2; clear own2 gr2 at2 rd2 _f f2) | (have _f := f3; refine (HD16.out _).mono ?_; rintro e w3 ⟨V3, ds, rfl, hd, hne, hl10, hl8, own3, b3⟩; obtain ⟨a3, c3, rfl, rd3⟩ := RdC.own own3; have HD3 := Lib.hid hd; have HL := Lib.hid (hl8 rfl); have HR3 := Lib.hid rd3; have HK3 := Lib.hid b3; have hle4 := Lib.hid (show 1 + j + ds.length ≤ 140737488355328 by have := HJK.out; have := hl8 rfl; omega); have hle5 := Lib.hid (show 0 + (1 + j + ds.length) ≤ 140737488355328 by have := hle4.out; omega); have hle6 := Lib.hid (show 1 + j + ds.length + 1 ≤ 140737488355328 by have := HJK.out; have := hl8 rfl; omega); have hle7 := Lib.hid (show 1 + j + ds.length + 1 ≤ 65535 by have := HJK.out; have := hl8 rfl; omega); have HO2' := Lib.hid (own_bel HO2.out b3); clear hd hne hl10 hl8 own3 b3 rd3 _f f3) | (have _f := f4; at_builtin; refine append_at rfl (.tmp 35) (.tmp 38) et_u8 rfl wr.heap.size rfl HO2'.out rfl HR3.out (by simp [chars]) (ints_one' _) (Nat.le_trans (Nat.le_of_eq (Nat.mul_one _)) hle4.out) hle4.out (Nat.le_trans (dig_below (Below.refl _ _) HG2.out).size HK3.out.size) ?_; intro v4 w4 own4 gr4 at4; obtain ⟨a4, c4, rfl, rd4⟩ := RdC.own own4; have HO4 := Lib.hid own4; have HG4 := Lib.hid gr4; have HR4 := Lib.hid rd4; have HX4 := Lib.hid (zd_eq j ds ▸ rd4); clear own4 gr4 at4 rd4 _f f4) | (have _f := f5; at_builtin; refine append_at rfl (.const (.slice none 0 0)) (.tmp 40) et_u8 rfl w4.heap.size rfl (World.ownsRow_nil _ _ _ _) rfl HX4.out (by simp only [List.length_map, zd_len]; omega) (ints_one' _) (Nat.le_trans (Nat.le_of_eq (Nat.mul_one _)) hle5.out) hle5.out (Nat.le_refl _) ?_; intro v5 w5 own5 gr5 at5; rw [Nat.zero_add, List.nil_append] at own5; obtain ⟨a5, c5, rfl, rd5⟩ := RdC.own own5; have HO5 := Lib.hid own5; have HG5 := Lib.hid gr5; have HR5 := Lib.hid rd5; have HB5 := Lib.hid (own_grow (Below.refl _ _) (World.ownsRow_nil w4 w4.heap.size 5 1) gr5); clear own5 gr5 at5 rd5 _f f5) | (have _f := f6; at_builtin; refine append_at rfl (.tmp 41) (.tmp 42) et_u8 rfl w4.heap.size rfl (HO5.out.alloc _) rfl (rd_at' (xs := [Value.int .u8 72]) (n := 1) (At.new w5 _ _) rfl (by unfold maxLen; omega)) rfl (ints_one' [72]) (Nat.le_trans (Nat.le_of_eq (Nat.mul_one _)) hle6.out) hle6.out (Nat.le_trans HB5.out.size (bel1 w5 _).size) ?_; intro v6 w6 own6 gr6 at6; obtain ⟨a6, c6, rfl, rd6⟩ := RdC.own own6; have HO6 := Lib.hid own6; have HG6 := Lib.hid gr6; have HR6 := Lib.hid rd6; have HB6 := Lib.hid (own_grow (bel_then HB5.out (bel1 w5 _)) (HO5.out.alloc _) gr6); clear own6 gr6 at6 rd6 _f f6) | (have _f := f7; refine (new_behind HR6.out (k := j + 1) (by omega) HD3.out.lt (by decide) hle7.out).mono ?_; rintro e w7 ⟨g7, rfl, hs, b7⟩; have HS7 := Lib.hid hs; have HB7 := Lib.hid (bel_then HB6.out b7); have HY7 := Lib.hid (hexH_sym HI HD3.out HL.out j); clear hs b7 _f f7) | (have _f := f8; refine (sym_lit HS7.out HY7.out).mono ?_; rintro e w8 ⟨rfl, b8⟩; have HB8 := Lib.hid (bel_then HB7.out b8); clear b8 _f f8) | (have _f := f9; refine alloc_sep rfl 30 rfl (Sep.nil w8) (z := symZ) (cs := symC) (by kernel_rfl) rfl ?_; intro w9 S9 b9 s9; have HS9 := Lib.hid S9; have HB9 := Lib.hid b9; clear S9 b9 s9 _f f9) | (have _f := f10; refine store_sep rfl 30 (.tmp 11) (.tmp 46) rfl HS9.out 0 rfl rfl rfl rfl (by kernel_rfl) rfl ?_; intro w10 S10 k10 s10; have HB10 := Lib.hid (bel_then HB8.out (((Ke.below (· = w8.heap.size) HB9.out).trans k10).toBelow (fun i hi e => absurd e (Nat.ne_of_lt hi)))); have HX10 := Lib.hid (HX4.out.below HB10.out (Nat.le_refl _)); have c0 : w10.cell? ⟨w8.heap.size, 0, none⟩ = some (.int .i64 26) := ((S10.at 0 rfl).cell 0).trans rfl; have c2 : w10.cell? ⟨w8.heap.size, 2, none⟩ = some (.int .i32 n) := ((S10.at 0 rfl).cell 2).trans rfl; clear S10 k10 s10 _f f10) | (have _f := f11; at_builtin; refine append_at rfl (.const (.slice none 0 0)) (.tmp 56) et_u8 rfl w10.heap.size rfl (World.ownsRow_nil _ _ _ _) rfl HX10.out (by simp only [List.length_map, zd_len]; omega) (ints_one' _) (Nat.le_trans (Nat.le_of_eq (Nat.mul_one _)) hle5.out) hle5.out (Nat.le_refl _) ?_; intro v11 w11 own11 gr11 at11; rw [Nat.zero_add, List.nil_append] at own11; obtain ⟨a11, c11, rfl, rd11⟩ := RdC.own own11; have HO11 := Lib.hid own11; have HG11 := Lib.hid gr11; have HR11 := Lib.hid rd11; have HB11 := Lib.hid (own_grow (Below.refl _ _) (World.ownsRow_nil w10 w10.heap.size 5 1) gr11); clear own11 gr11 at11 rd11 _f f11) | (have _f := f12; at_builtin; refine append_at rfl (.tmp 57) (.tmp 58) et_u8 rfl w10.heap.size rfl (HO11.out.alloc _) rfl (rd_at' (xs := [Value.int .u8 88]) (n := 1) (At.new w11 _ _) rfl (by unfold maxLen; omega)) rfl (ints_one' [88]) (Nat.le_trans (Nat.le_of_eq (Nat.mul_one _)) hle6.out) hle6.out (Nat.le_trans HB11.out.size (bel1 w11 _).size) ?_; intro v12 w12 own12 gr12 at12; obtain ⟨a12, c12, rfl, rd12⟩ := RdC.own own12; have HO12 := Lib.hid own12; have HG12 := Lib.hid gr12; have HR12 := Lib.hid rd12; have HB12 := Lib.hid (own_grow (bel_then HB11.out (bel1 w11 _)) (HO11.out.alloc _) gr12); clear own12 gr12 at12 rd12 _f f12) | (have _f := f13; refine (new_behind HR12.out (k := j + 1) (by omega) HD3.out.lt (by decide) hle7.out).mono ?_; rintro e w13 ⟨g13, rfl, hs, b13⟩; have HS13 := Lib.hid hs; have HB13 := Lib.hid (bel_then HB12.out b13); have HY13 := Lib.hid (hexX_no HI HD3.out HL.out j HC.out.1); clear hs b13 _f f13) | (have _f := f14; refine (sym_lit HS13.out HY13.out).mono ?_; rintro e w14 ⟨rfl, b14⟩; have HB14 := Lib.hid (bel_then HB13.out b14); clear b14 _f f14) | (have _f := f15; refine alloc_sep rfl 30 rfl (Sep.nil w14) (z := symZ) (cs := symC) (by kernel_rfl) rfl ?_; intro w15 S15 b15 s15; have HS15 := Lib.hid S15; have HB15 := Lib.hid b15; clear S15 b15 s15 _f f15) | (have _f := f16; refine store_sep rfl 30 (.tmp 12) (.tmp 62) rfl HS15.out 0 rfl rfl rfl rfl (by kernel_rfl) rfl ?_; intro w16 S16 k16 s16; have HB16 := Lib.hid (bel_then HB14.out (((Ke.below (· = w14.heap.size) HB15.out).trans k16).toBelow (fun i hi e => absurd e (Nat.ne_of_lt hi)))); have HX16 := Lib.hid (HX10.out.below HB16.out (Nat.le_refl _)); have e0 : w16.cell? ⟨w14.heap.size, 0, none⟩ = some (.int .i64 0) := ((S16.at 0 rfl).cell 0).trans rfl; have e2 : w16.cell? ⟨w14.heap.size, 2, none⟩ = some (.int .i32 0) := ((S16.at 0 rfl).cell 2).trans rfl; have HS16' := Lib.hid S16; have HB16' := Lib.hid (bel_then (bel_then (own_grow (bel_then (dig_below (Below.refl _ _) HG2.out) HK3.out) HO2'.out HG4.out) HB10.out) HB16.out); have HZ16 := Lib.hid (HZ.out.below HB16'.out (Nat.le_refl _)); clear c0 c2; clear S16 k16 s16 _f f16) | (have _f := f21; at_builtin; refine append_at rfl (.const (.slice none 0 0)) (.tmp 75) et_u8 rfl w16.heap.size rfl (World.ownsRow_nil _ _ _ _) rfl HZ16.out (by simp) (ints_one' _) (Nat.le_trans (Nat.le_of_eq (Nat.mul_one _)) hle21.out) hle21.out (Nat.le_refl _) ?_; intro v21 w21 own21 gr21 at21; rw [Nat.zero_add, List.nil_append] at own21; obtain ⟨a21, c21, rfl, rd21⟩ := RdC.own own21; have HO21 := Lib.hid own21; have HG21 := Lib.hid gr21; have HR21 := Lib.hid rd21; have HB21 := Lib.hid (own_grow (Below.refl _ _) (World.ownsRow_nil w16 w16.heap.size 5 1) gr21); clear own21 gr21 at21 rd21 _f f21) | (have _f := f22; refine (HD10.out _).mono ?_; rintro e w22 ⟨V22, es, rfl, hd, hne, hl10, hl8, own22, b22⟩; obtain ⟨a22, c22, rfl, rd22⟩ := RdC.own own22; have HD22 := Lib.hid hd; have HN22 := Lib.hid hne; have HL22 := Lib.hid hl10; have HR22 := Lib.hid rd22; have HB22 := Lib.hid (bel_then HB21.out b22); have HO21' := Lib.hid (own_bel HO21.out b22); have hle23 := Lib.hid (show j + es.length ≤ 140737488355328 by have := HJK.out; omega); have hle24 := Lib.hid (show j + es.length ≤ 65535 by have := HJK.out; omega); clear hd hne hl10 hl8 own22 b22 rd22 _f f22) | (have _f := f23; at_builtin; refine append_at rfl (.tmp 76) (.tmp 79) et_u8 rfl w16.heap.size rfl HO21'.out rfl HR22.out (by simp [chars]) (ints_one' _) (Nat.le_trans (Nat.le_of_eq (Nat.mul_one _)) hle23.out) hle23.out HB22.out.size ?_; intro v23 w23 own23 gr23 at23; obtain ⟨a23, c23, rfl, rd23⟩ := RdC.own own23; have HO23 := Lib.hid own23; have HG23 := Lib.hid gr23; have HR23 := Lib.hid rd23; have HB23 := Lib.hid (own_grow HB22.out HO21'.out gr23); clear own23 gr23 at23 rd23 _f f23) | (have _f := f24; refine (new_rd HR23.out (l := zd j es) (by simp [zd]) (zd_len _ _) (zd_bd (fun d hd => Nat.lt_trans (HD22.out.lt d hd) (by decide))) hle24.out).mono ?_; rintro e w24 ⟨g24, rfl, hs, b24⟩; have HS24 := Lib.hid hs; have HB24 := Lib.hid (bel_then HB23.out b24); have HY24 := Lib.hid (dec_ok HI HD22.out HN22.out j (by have := HC.out; omega)); clear hs b24 _f f24) | (have _f := f25; refine (sym_lit HS24.out HY24.out).mono ?_; rintro e w25 ⟨rfl, b25⟩; have HB25 := Lib.hid (bel_then HB24.out b25); have HS25 := Lib.hid (HS16'.out.bel (bel_then HB24.out b25)); clear b25 _f f25) | (have _f := f26; refine store_sep rfl 30 (.tmp 12) (.tmp 83) rfl HS25.out 0 rfl rfl rfl rfl (by kernel_rfl) rfl ?_; intro w26 S26 k26 s26; have HK26 := Lib.hid k26; clear e0 e2; have e0 : w26.cell? ⟨w14.heap.size, 0, none⟩ = some (.int .i64 26) := ((S26.at 0 rfl).cell 0).trans rfl; have e2 : w26.cell? ⟨w14.heap.size, 2, none⟩ = some (.int .i32 n) := ((S26.at 0 rfl).cell 2).trans rfl; clear S26 k26 s26 _f f26) | (have _f := f27; refine (known_walk _).mono ?_; rintro e w27 ⟨rfl, b27⟩; have HB27 := Lib.hid b27; clear b27 _f f27))
          have HBA := own_grow (bel_then (dig_below (Below.refl _ _) HG2.out) HK3.out) HO2'.out HG4.out
          have hsz : w.heap.size ≤ w14.heap.size := Nat.le_trans HB.out.size (Nat.le_trans HBA.size (Nat.le_trans HB10.out.size HB14.out.size))
          have KK := ((Ke.below (fun i => w.heap.size ≤ i) (bel_then HB.out HB16'.out)).trans (Ke.below _ HB25.out)).trans (HK26.out.mono (fun i _ e => Nat.le_trans hsz (Nat.le_of_eq (Eq.symm e))))
          have HBZ := Lib.hid ((KK.trans (Ke.below _ HB27.out)).toBelow (fun i hi e => absurd e (Nat.not_le_of_lt hi)))
          clear HBA hsz KK
          go_ret
          exact ⟨rfl, HBZ.out⟩
        · have HC := Lib.hid hc
          have hq1 : ¬ U ≤ 255 := by have := HUU.out; omega
          have hq2 : ¬ U < 2147483648 := by have := HUU.out; omega
          clear hc
          have f2 : True := trivial
          have f3 : True := trivial
          have f4 : True := trivial
          have f5 : True := trivial
          have f6 : True := trivial
          have f7 : True := trivial
          have f8 : True := trivial
          have f9 : True := trivial
          have f10 : True := trivial
          have hle2 := Lib.hid (show 1 + j ≤ 140737488355328 by have := HJK.out; omega)
          have f11 : True := trivial
          have f12 : True := trivial
          have f13 : True := trivial
          have f14 : True := trivial
          have f15 : True := trivial
          have f16 : True := trivial
          have f21 : True := trivial
          have f22 : True := trivial
          have f23 : True := trivial
          have f24 : True := trivial
          have f25 : True := trivial
          have f26 : True := trivial
          have f27 : True := trivial
          have hle21 := Lib.hid (show 0 + j ≤ 140737488355328 by have := HJK.out; omega)
          go_wp2_with (first | (have _f := f2; at_builtin; refine append_at rfl (.tmp 33) (.tmp 34) et_u8 rfl wr.heap.size rfl (own_litB (xs := [.int .u8 48]) (At.new wr #[.int .u8 48] _) 1 rfl (by unfold maxLen; omega) (Nat.le_refl _)) rfl (HZ.out.below (bel1 wr (.cells #[.int .u8 48] 5)) (Nat.le_refl _)) (by simp) (ints_one' _) (Nat.le_trans (Nat.le_of_eq (Nat.mul_one _)) hle2.out) hle2.out (bel1 wr _).size ?_; intro v2 w2 own2 gr2 at2; obtain ⟨a2, c2, rfl, rd2⟩ := RdC.own own2; have HO2 := Lib.hid own2; have HG2 := Lib.hid gr2; have HR2 := Lib.hid rd2; clear own2 gr2 at2 rd2 _f f2) | (have _f := f3; refine (HD16.out _).mono ?_; rintro e w3 ⟨V3, ds, rfl, hd, hne, hl10, hl8, own3, b3⟩; obtain ⟨a3, c3, rfl, rd3⟩ := RdC.own own3; have HD3 := Lib.hid hd; have HL := Lib.hid (hl8 rfl); have HR3 := Lib.hid rd3; have HK3 := Lib.hid b3; have hle4 := Lib.hid (show 1 + j + ds.length ≤ 140737488355328 by have := HJK.out; have := hl8 rfl; omega); have hle5 := Lib.hid (show 0 + (1 + j + ds.length) ≤ 140737488355328 by have := hle4.out; omega); have hle6 := Lib.hid (show 1 + j + ds.length + 1 ≤ 140737488355328 by have := HJK.out; have := hl8 rfl; omega); have hle7 := Lib.hid (show 1 + j + ds.length + 1 ≤ 65535 by have := HJK.out; have := hl8 rfl; omega); have HO2' := Lib.hid (own_bel HO2.out b3); clear hd hne hl10 hl8 own3 b3 rd3 _f f3) | (have _f := f4; at_builtin; refine append_at rfl (.tmp 35) (.tmp 38) et_u8 rfl wr.heap.size rfl HO2'.out rfl HR3.out (by simp [chars]) (ints_one' _) (Nat.le_trans (Nat.le_of_eq (Nat.mul_one _)) hle4.out) hle4.out (Nat.le_trans (dig_below (Below.refl _ _) HG2.out).size HK3.out.size) ?_; intro v4 w4 own4 gr4 at4; obtain ⟨a4, c4, rfl, rd4⟩ := RdC.own own4; have HO4 := Lib.hid own4; have HG4 := Lib.hid gr4; have HR4 := Lib.hid rd4; have HX4 := Lib.hid (zd_eq j ds ▸ rd4); clear own4 gr4 at4 rd4 _f f4) | (have _f := f5; at_builtin; refine append_at rfl (.const (.slice none 0 0)) (.tmp 40) et_u8 rfl w4.heap.size rfl (World.ownsRow_nil _ _ _ _) rfl HX4.out (by simp only [List.length_map, zd_len]; omega) (ints_one' _) (Nat.le_trans (Nat.le_of_eq (Nat.mul_one _)) hle5.out) hle5.out (Nat.le_refl _) ?_; intro v5 w5 own5 gr5 at5; rw [Nat.zero_add, List.nil_append] at own5; obtain ⟨a5, c5, rfl, rd5⟩ := RdC.own own5; have HO5 := Lib.hid own5; have HG5 := Lib.hid gr5; have HR5 := Lib.hid rd5; have HB5 := Lib.hid (own_grow (Below.refl _ _) (World.ownsRow_nil w4 w4.heap.size 5 1) gr5); clear own5 gr5 at5 rd5 _f f5) | (have _f := f6; at_builtin; refine append_at rfl (.tmp 41) (.tmp 42) et_u8 rfl w4.heap.size rfl (HO5.out.alloc _) rfl (rd_at' (xs := [Value.int .u8 72]) (n := 1) (At.new w5 _ _) rfl (by unfold maxLen; omega)) rfl (ints_one' [72]) (Nat.le_trans (Nat.le_of_eq (Nat.mul_one _)) hle6.out) hle6.out (Nat.le_trans HB5.out.size (bel1 w5 _).size) ?_; intro v6 w6 own6 gr6 at6; obtain ⟨a6, c6, rfl, rd6⟩ := RdC.own own6; have HO6 := Lib.hid own6; have HG6 := Lib.hid gr6; have HR6 := Lib.hid rd6; have HB6 := Lib.hid (own_grow (bel_then HB5.out (bel1 w5 _)) (HO5.out.alloc _) gr6); clear own6 gr6 at6 rd6 _f f6) | (have _f := f7; refine (new_behind HR6.out (k := j + 1) (by omega) HD3.out.lt (by decide) hle7.out).mono ?_; rintro e w7 ⟨g7, rfl, hs, b7⟩; have HS7 := Lib.hid hs; have HB7 := Lib.hid (bel_then HB6.out b7); have HY7 := Lib.hid (hexH_sym HI HD3.out HL.out j); clear hs b7 _f f7) | (have _f := f8; refine (sym_lit HS7.out HY7.out).mono ?_; rintro e w8 ⟨rfl, b8⟩; have HB8 := Lib.hid (bel_then HB7.out b8); clear b8 _f f8) | (have _f := f9; refine alloc_sep rfl 30 rfl (Sep.nil w8) (z := symZ) (cs := symC) (by kernel_rfl) rfl ?_; intro w9 S9 b9 s9; have HS9 := Lib.hid S9; have HB9 := Lib.hid b9; clear S9 b9 s9 _f f9) | (have _f := f10; refine store_sep rfl 30 (.tmp 11) (.tmp 46) rfl HS9.out 0 rfl rfl rfl rfl (by kernel_rfl) rfl ?_; intro w10 S10 k10 s10; have HB10 := Lib.hid (bel_then HB8.out (((Ke.below (· = w8.heap.size) HB9.out).trans k10).toBelow (fun i hi e => absurd e (Nat.ne_of_lt hi)))); have HX10 := Lib.hid (HX4.out.below HB10.out (Nat.le_refl _)); have c0 : w10.cell? ⟨w8.heap.size, 0, none⟩ = some (.int .i64 26) := ((S10.at 0 rfl).cell 0).trans rfl; have c2 : w10.cell? ⟨w8.heap.size, 2, none⟩ = some (.int .i32 n) := ((S10.at 0 rfl).cell 2).trans rfl; clear S10 k10 s10 _f f10) | (have _f := f11; at_builtin; refine append_at rfl (.const (.slice none 0 0)) (.tmp 56) et_u8 rfl w10.heap.size rfl (World.ownsRow_nil _ _ _ _) rfl HX10.out (by simp only [List.length_map, zd_len]; omega) (ints_one' _) (Nat.le_trans (Nat.le_of_eq (Nat.mul_one _)) hle5.out) hle5.out (Nat.le_refl _) ?_; intro v11 w11 own11 gr11 at11; rw [Nat.zero_add, List.nil_append] at own11; obtain ⟨a11, c11, rfl, rd11⟩ := RdC.own own11; have HO11 := Lib.hid own11; have HG11 := Lib.hid gr11; have HR11 := Lib.hid rd11; have HB11 := Lib.hid (own_grow (Below.refl _ _) (World.ownsRow_nil w10 w10.heap.size 5 1) gr11); clear own11 gr11 at11 rd11 _f f11) | (have _f := f12; at_builtin; refine append_at rfl (.tmp 57) (.tmp 58) et_u8 rfl w10.heap.size rfl (HO11.out.alloc _) rfl (rd_at' (xs := [Value.int .u8 88]) (n := 1) (At.new w11 _ _) rfl (by unfold maxLen; omega)) rfl (ints_one' [88]) (Nat.le_trans (Nat.le_of_eq (Nat.mul_one _)) hle6.out) hle6.out (Nat.le_trans HB11.out.size (bel1 w11 _).size) ?_; intro v12 w12 own12 gr12 at12; obtain ⟨a12, c12, rfl, rd12⟩ := RdC.own own12; have HO12 := Lib.hid own12; have HG12 := Lib.hid gr12; have HR12 := Lib.hid rd12; have HB12 := Lib.hid (own_grow (bel_then HB11.out (bel1 w11 _)) (HO11.out.alloc _) gr12); clear own12 gr12 at12 rd12 _f f12) | (have _f := f13; refine (new_behind HR12.out (k := j + 1) (by omega) HD3.out.lt (by decide) hle7.out).mono ?_; rintro e w13 ⟨g13, rfl, hs, b13⟩; have HS13 := Lib.hid hs; have HB13 := Lib.hid (bel_then HB12.out b13); have HY13 := Lib.hid (hexX_no HI HD3.out HL.out j (by have := HC.out; omega)); clear hs b13 _f f13) | (have _f := f14; refine (sym_lit HS13.out HY13.out).mono ?_; rintro e w14 ⟨rfl, b14⟩; have HB14 := Lib.hid (bel_then HB13.out b14); clear b14 _f f14) | (have _f := f15; refine alloc_sep rfl 30 rfl (Sep.nil w14) (z := symZ) (cs := symC) (by kernel_rfl) rfl ?_; intro w15 S15 b15 s15; have HS15 := Lib.hid S15; have HB15 := Lib.hid b15; clear S15 b15 s15 _f f15) | (have _f := f16; refine store_sep rfl 30 (.tmp 12) (.tmp 62) rfl HS15.out 0 rfl rfl rfl rfl (by kernel_rfl) rfl ?_; intro w16 S16 k16 s16; have HB16 := Lib.hid (bel_then HB14.out (((Ke.below (· = w14.heap.size) HB15.out).trans k16).toBelow (fun i hi e => absurd e (Nat.ne_of_lt hi)))); have HX16 := Lib.hid (HX10.out.below HB16.out (Nat.le_refl _)); have e0 : w16.cell? ⟨w14.heap.size, 0, none⟩ = some (.int .i64 0) := ((S16.at 0 rfl).cell 0).trans rfl; have e2 : w16.cell? ⟨w14.heap.size, 2, none⟩ = some (.int .i32 0) := ((S16.at 0 rfl).cell 2).trans rfl; have HS16' := Lib.hid S16; have HB16' := Lib.hid (bel_then (bel_then (own_grow (bel_then (dig_below (Below.refl _ _) HG2.out) HK3.out) HO2'.out HG4.out) HB10.out) HB16.out); have HZ16 := Lib.hid (HZ.out.below HB16'.out (Nat.le_refl _)); clear c0 c2; clear S16 k16 s16 _f f16) | (have _f := f21; at_builtin; refine append_at rfl (.const (.slice none 0 0)) (.tmp 75) et_u8 rfl w16.heap.size rfl (World.ownsRow_nil _ _ _ _) rfl HZ16.out (by simp) (ints_one' _) (Nat.le_trans (Nat.le_of_eq (Nat.mul_one _)) hle21.out) hle21.out (Nat.le_refl _) ?_; intro v21 w21 own21 gr21 at21; rw [Nat.zero_add, List.nil_append] at own21; obtain ⟨a21, c21, rfl, rd21⟩ := RdC.own own21; have HO21 := Lib.hid own21; have HG21 := Lib.hid gr21; have HR21 := Lib.hid rd21; have HB21 := Lib.hid (own_grow (Below.refl _ _) (World.ownsRow_nil w16 w16.heap.size 5 1) gr21); clear own21 gr21 at21 rd21 _f f21) | (have _f := f22; refine (HD10.out _).mono ?_; rintro e w22 ⟨V22, es, rfl, hd, hne, hl10, hl8, own22, b22⟩; obtain ⟨a22, c22, rfl, rd22⟩ := RdC.own own22; have HD22 := Lib.hid hd; have HN22 := Lib.hid hne; have HL22 := Lib.hid hl10; have HR22 := Lib.hid rd22; have HB22 := Lib.hid (bel_then HB21.out b22); have HO21' := Lib.hid (own_bel HO21.out b22); have hle23 := Lib.hid (show j + es.length ≤ 140737488355328 by have := HJK.out; omega); have hle24 := Lib.hid (show j + es.length ≤ 65535 by have := HJK.out; omega); clear hd hne hl10 hl8 own22 b22 rd22 _f f22) | (have _f := f23; at_builtin; refine append_at rfl (.tmp 76) (.tmp 79) et_u8 rfl w16.heap.size rfl HO21'.out rfl HR22.out (by simp [chars]) (ints_one' _) (Nat.le_trans (Nat.le_of_eq (Nat.mul_one _)) hle23.out) hle23.out HB22.out.size ?_; intro v23 w23 own23 gr23 at23; obtain ⟨a23, c23, rfl, rd23⟩ := RdC.own own23; have HO23 := Lib.hid own23; have HG23 := Lib.hid gr23; have HR23 := Lib.hid rd23; have HB23 := Lib.hid (own_grow HB22.out HO21'.out gr23); clear own23 gr23 at23 rd23 _f f23) | (have _f := f24; refine (new_rd HR23.out (l := zd j es) (by simp [zd]) (zd_len _ _) (zd_bd (fun d hd => Nat.lt_trans (HD22.out.lt d hd) (by decide))) hle24.out).mono ?_; rintro e w24 ⟨g24, rfl, hs, b24⟩; have HS24 := Lib.hid hs; have HB24 := Lib.hid (bel_then HB23.out b24); have HY24 := Lib.hid (dec_no HI HD22.out HN22.out j HC.out); clear hs b24 _f f24) | (have _f := f25; refine (sym_lit HS24.out HY24.out).mono ?_; rintro e w25 ⟨rfl, b25⟩; have HB25 := Lib.hid (bel_then HB24.out b25); have HS25 := Lib.hid (HS16'.out.bel (bel_then HB24.out b25)); clear b25 _f f25) | (have _f := f26; refine store_sep rfl 30 (.tmp 12) (.tmp 83) rfl HS25.out 0 rfl rfl rfl rfl (by kernel_rfl) rfl ?_; intro w26 S26 k26 s26; have HK26 := Lib.hid k26; clear e0 e2; have e0 : w26.cell? ⟨w14.heap.size, 0, none⟩ = some (.int .i64 0) := ((S26.at 0 rfl).cell 0).trans rfl; have e2 : w26.cell? ⟨w14.heap.size, 2, none⟩ = some (.int .i32 0) := ((S26.at 0 rfl).cell 2).trans rfl; clear S26 k26 s26 _f f26) | (have _f := f27; refine (known_walk _).mono ?_; rintro e w27 ⟨rfl, b27⟩; have HB27 := Lib.hid b27; clear b27 _f f27))
          have HBA := own_grow (bel_then (dig_below (Below.refl _ _) HG2.out) HK3.out) HO2'.out HG4.out
          have hsz : w.heap.size ≤ w14.heap.size := Nat.le_trans HB.out.size (Nat.le_trans HBA.size (Nat.le_trans HB10.out.size HB14.out.size))
          have KK := ((Ke.below (fun i => w.heap.size ≤ i) (bel_then HB.out HB16'.out)).trans (Ke.below _ HB25.out)).trans (HK26.out.mono (fun i _ e => Nat.le_trans hsz (Nat.le_of_eq (Eq.symm e))))
          have HBZ := Lib.hid ((KK.trans (Ke.below _ HB27.out)).toBelow (fun i hi e => absurd e (Nat.not_le_of_lt hi)))
          clear HBA hsz KK
          go_ret
          exact ⟨by rw [decide_eq_false (show ¬ U < 2147483648 by have := HUU.out; have := HC.out; omega)]; rfl, HBZ.out⟩
        -- END
  · have hcs : x < 0 ∨ (¬ x < 0 ∧ 20 < x) := by omega
    clear hin hx
    rcases hcs with h1 | ⟨h1, h2⟩
    all_goals
      go_enter Try.func3, Try.ntmps3
      go_wp2_with (refine (known_walk _).mono ?_; rintro e w13 ⟨rfl, hb⟩; have B13 := Lib.hid hb; clear hb)
      go_ret
      exact ⟨rfl, B13.out⟩

end Go.Proofs.Ytdgiijidgjagbaa
