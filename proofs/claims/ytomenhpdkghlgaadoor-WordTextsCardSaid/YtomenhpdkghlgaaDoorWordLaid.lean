/- What the row's listed variables give a walk; contracts of word.Dec and word.OfDec over them. -/
import Derived.Test.YtomenhpdkghlgaaDoorShelf
import Derived.Test.YtomenhpdkghlgaaDoorWordRef2
import Derived.Stop.LaidErr
import Derived.Lib.LaidTab
import Derived.WalkSmall
import Derived.Lib.ItoaNum
import Derived.Lib.Hide
namespace Go.Proofs.YtomenhpdkghlgaaDoor
set_option linter.unusedVariables false
set_option linter.unusedSimpArgs false
open Go.RowKit Go.Sort Go.Lib

theorem gES : Tryd.prog.globalNamed "strconv.ErrSyntax" = some 0 := by kernel_rfl
theorem gER : Tryd.prog.globalNamed "strconv.ErrRange" = some 1 := by kernel_rfl
theorem gP : Tryd.prog.globalNamed "internal/strconv.uint64pow10" = some 2 := by kernel_rfl
theorem gEST : (Tryd.prog.globals[0]?).map (·.type) = some 60 := by kernel_rfl
theorem gERT : (Tryd.prog.globals[1]?).map (·.type) = some 60 := by kernel_rfl
theorem gPT : (Tryd.prog.globals[2]?).map (·.type) = some 89 := by kernel_rfl

/-- the library's table and errors stand. -/
structure Laid (w : World) : Prop where
  tab : TabIs Tryd.prog w "internal/strconv.uint64pow10" .u64 pow10Tab
  es : ∃ tp p, w.var? Tryd.prog "strconv.ErrSyntax" = some #[.iface tp p]
  er : ∃ tp p, w.var? Tryd.prog "strconv.ErrRange" = some #[.iface tp p]

theorem var_lt {w : World} {n : String} {g : Nat} {cs : Array Value} (hg : Tryd.prog.globalNamed n = some g) (h : w.var? Tryd.prog n = some cs) : g < w.heap.size := by
  unfold World.var? at h
  simp only [hg, Option.bind_some] at h
  rcases Nat.lt_or_ge g w.heap.size with h' | h'
  · exact h'
  · rw [Array.getElem?_eq_none h'] at h; cases h
theorem var_bel {w w' : World} {n : String} {g : Nat} {cs : Array Value} (hg : Tryd.prog.globalNamed n = some g) (h : w.var? Tryd.prog n = some cs) (hb : Below w.heap.size w w') : w'.var? Tryd.prog n = some cs :=
  var?_below hb hg (var_lt hg h) h
theorem Laid.bel {w w' : World} (h : Laid w) (hb : Below w.heap.size w w') : Laid w' := by
  obtain ⟨h1, ⟨t, p, h2⟩, ⟨t', p', h3⟩⟩ := h
  exact ⟨var_bel gP h1 hb, ⟨t, p, var_bel gES h2 hb⟩, ⟨t', p', var_bel gER h3 hb⟩⟩
theorem below_grown (w : World) (k : Nat) (os : Array Obj) : Below w.heap.size w (grow (w.drewN k) os) :=
  ⟨rfl, rfl, rfl, by simp [grow, World.drewN], fun i hi => by
    show ((w.drewN k).heap ++ os)[i]? = w.heap[i]?
    rw [Array.getElem?_append_left (show i < (w.drewN k).heap.size from hi)]; rfl⟩

/-- a word's decimal text. -/
def decB (a : Int) : ByteArray := ⟨(itoa (W.sg a)).toArray⟩

theorem dec_walk (a : Int) (w : World) (ha : 0 ≤ a ∧ a < 4294967296) (hL : Laid w) : Calls Tryd.prog 39 #[.int .u32 a] w fun e w' => e = .returned (.string (decB a)) ∧ Below w.heap.size w w' := by
  have hs := W.sg_bd ha.1 ha.2
  have e1 := wrap32_sg ha.1 ha.2
  have HL := Lib.hid hL
  clear hL
  go_enter Tryd.func39, Tryd.ntmps39
  go_wp2_with (go_at_call 49; refine (Tryd.strconv_Itoa (W.sg a) (by omega) (by omega) _ HL.out.tab).mono ?_; rintro e w' ⟨rfl, k, os, rfl⟩)
  go_ret
  exact ⟨rfl, below_grown _ _ _⟩

theorem parse_ok (s : ByteArray) (w : World) (hs : s.size ≤ 281474976710656) (v : Int) (h : parseIntB 32 s.data.toList = .ok v) : Calls Tryd.prog 48 #[.string s, .int .i64 10, .int .i64 32] w fun e w' => e = .returned (.tuple #[.int .i64 v, .nilIface]) ∧ Below w.heap.size w w' :=
  (Tryd.strconv_ParseInt_10_at32_ok s (by omega) v h w).mono fun e w' ⟨he, hw⟩ => ⟨he, by
    rcases hw with rfl | ⟨t, rfl⟩
    · exact Below.refl _ _
    · exact bytesWorld_below w 5 t⟩
theorem parse_bad (s : ByteArray) (w : World) (hs : s.size ≤ 281474976710656) (hL : Laid w) (h : ∀ v, parseIntB 32 s.data.toList ≠ .ok v) : Calls Tryd.prog 48 #[.string s, .int .i64 10, .int .i64 32] w fun e w' => ∃ v N, e = .returned (.tuple #[.int .i64 v, .iface 68 (.pointer (some ⟨N, 0, none⟩))]) ∧ Below w.heap.size w w' := by
  obtain ⟨-, ⟨t, p, h2⟩, ⟨t', p', h3⟩⟩ := hL
  cases hp : parseIntB 32 s.data.toList
  · exact absurd hp (h _)
  · exact Calls.mono (Any.strconv_ParseInt_10_at32_syntax_var Tryd.laysC174 s hs hp t p w h2) fun e w' ⟨N, he, _, _, hb⟩ => ⟨_, N, he, hb⟩
  · exact (Tryd.strconv_ParseInt_10_at32_range_var s hs hp t' p' w h3).mono fun e w' ⟨N, he, _, _, hb⟩ => ⟨_, N, he, hb⟩

/-- a decimal text's word, and the error's number. -/
def ofDecV (s : ByteArray) : Int × Int :=
  match parseIntB 32 s.data.toList with
  | .ok v => if (decB (W.wd v)).toList == s.toList then (W.wd v, 0) else (0, 4)
  | _ => (0, 4)

theorem ret_of {a b c d : Int} (h : (a, b) = (c, d)) : Ending.returned (.tuple #[.int .u32 a, .int .i64 b]) = .returned (.tuple #[.int .u32 c, .int .i64 d]) := by cases h; rfl

set_option maxHeartbeats 1000000 in
theorem ofdec_walk (s : ByteArray) (w : World) (hs : s.size ≤ 281474976710656) (hL : Laid w) : Calls Tryd.prog 35 #[.string s] w fun e w' => e = .returned (.tuple #[.int .u32 (ofDecV s).1, .int .i64 (ofDecV s).2]) ∧ Below w.heap.size w w' := by
  have HL := Lib.hid hL
  by_cases hok : ∃ v, parseIntB 32 s.data.toList = .ok v
  · obtain ⟨v, hp⟩ := hok
    have hb := parseIntB_bounds hp
    have hb1 : -2147483648 ≤ v ∧ v < 2147483648 := by simpa using hb
    have HP := Lib.hid hp
    have hw := W.wd_lo v
    have hw2 := W.wd_hi v
    have hwv : v % 4294967296 = W.wd v := rfl
    obtain ⟨n, hn⟩ : ∃ n, n = W.wd v := ⟨_, rfl⟩
    rw [← hn] at hw hw2 hwv
    obtain ⟨q, hq⟩ : ∃ q, q = ((decB n).toList == s.toList) := ⟨_, rfl⟩
    have e : ofDecV s = if q then (n, 0) else (0, 4) := by unfold ofDecV; rw [hp]; simp only [hn, hq]
    have E := Lib.hid e
    have hq' := hq.symm
    obtain ⟨t, ht⟩ : ∃ t, t = decB n := ⟨_, rfl⟩
    have HT := Lib.hid ht
    rw [← ht] at hq'
    clear hL hp hb e hn hq ht
    cases q
    · go_enter Tryd.func35, Tryd.ntmps35
      go_wp2_with (first | (go_at_call 48; refine (parse_ok s _ hs v HP.out).mono ?_; rintro e w1 ⟨rfl, hb1'⟩; have HB1 := Lib.hid hb1'; clear hb1') | (go_at_call 39; refine (dec_walk n _ ⟨hw, hw2⟩ (HL.out.bel HB1.out)).mono ?_; rw [← HT.out]; rintro e w2 ⟨rfl, hb2⟩; have HB2 := Lib.hid hb2; clear hb2))
      go_ret2
      exact ⟨ret_of (by rw [E.out]; simp [hwv]), bel_then HB1.out HB2.out⟩
    · go_enter Tryd.func35, Tryd.ntmps35
      go_wp2_with (first | (go_at_call 48; refine (parse_ok s _ hs v HP.out).mono ?_; rintro e w1 ⟨rfl, hb1'⟩; have HB1 := Lib.hid hb1'; clear hb1') | (go_at_call 39; refine (dec_walk n _ ⟨hw, hw2⟩ (HL.out.bel HB1.out)).mono ?_; rw [← HT.out]; rintro e w2 ⟨rfl, hb2⟩; have HB2 := Lib.hid hb2; clear hb2))
      go_ret2
      exact ⟨ret_of (by rw [E.out]; simp [hwv]), bel_then HB1.out HB2.out⟩
  · have hno : ∀ v, parseIntB 32 s.data.toList ≠ .ok v := fun v h => hok ⟨v, h⟩
    have e : ofDecV s = (0, 4) := by
      unfold ofDecV
      split
      · rename_i v hv; exact absurd hv (hno v)
      · rfl
    have E := Lib.hid e
    have HN := Lib.hid hno
    clear hL e hno hok
    go_enter Tryd.func35, Tryd.ntmps35
    go_wp2_with (go_at_call 48; refine (parse_bad s _ hs HL.out HN.out).mono ?_; rintro e w1 ⟨v, N, rfl, hb1'⟩; have HB1 := Lib.hid hb1'; clear hb1')
    go_ret2
    exact ⟨ret_of (by rw [E.out]), HB1.out⟩

end Go.Proofs.YtomenhpdkghlgaaDoor
