/- The statement ScanInterns, walked. -/
import Derived.Test.YtdgiijidgjagbaaScanPub
import Derived.Test.YtdgiijidgjagbaaOpenS
namespace Go.Proofs.Ytdgiijidgjagbaa
set_option linter.unusedVariables false
set_option linter.unusedSimpArgs false
open Go.RowKit

variable {F : Nat → Prop} {w w' : World} {g : Nat} {s : Sc}

theorem Scn.grow (H : Scn F w g s) {V : Value} {n : Nat} {xs : List Value} (hV : w.ownsRow 0 9 1 V n xs) (hg : w.grownBy w' V.ownBlock) (hF : ∀ b, V.ownBlock = some b → F b) : Scn (fun i => F i ∨ (w.heap.size ≤ i ∧ i < w'.heap.size)) w' g s := by
  obtain ⟨a, c, n, m, h⟩ := H
  have k := Ke.grown hg
  have h' : ScnX F w' g s a c n m := h.ke k (fun e => h.fg (hF _ e)) (fun e => h.fm (hF _ e)) (fun b hb e => h.fn b hb (hF _ e)) (fun b hb e => ownsRow_apart hV h.src (by decide) b e hb)
  refine ⟨a, c, n, m, h'.at', h'.src, h'.nms, h'.ids, fun e => ?_, fun e => ?_, fun b hb e => ?_, h.ok⟩
  · rcases e with e | e
    · exact h.fg e
    · have := h.at'.lt; omega
  · rcases e with e | e
    · exact h.fm e
    · have := h.ids.lt; omega
  · rcases e with e | e
    · exact h.fn b hb e
    · have := (h.nms.lt b hb).2; omega

theorem bel_off {w w1 w2 : World} {F : Nat → Prop} (h : Below w.heap.size w w1) (k : Ke (Off F) w1 w2) (hF : ∀ i, i < w.heap.size → F i) : Below w.heap.size w w2 :=
  off_bel h (k.mono (fun i _ e hi => e (hF i hi)))
theorem nameV_str (x : ByteArray) : nameV x.data.toList = .string x := by unfold nameV; simp
theorem str_ext {s t : ByteArray} (h : (s.toList == t.toList) = true) : s = t := by
  have h1 : s.toList = t.toList := by simpa using h
  have e : ∀ x : ByteArray, x.toList = x.data.toList := fun x => ByteArray.toList_eq x
  apply ByteArray.ext
  rw [e, e] at h1
  exact Array.toList_inj.1 h1
/-- word.OfHex says what the reference says. -/
theorem names_is (H : Scn F w g s) (k : Nat) (hk : s.names.length = k) : Calls Try.prog 20 #[.pointer (some ⟨g, 0, none⟩)] w fun e w' => e = .returned (.int .i64 k) ∧ w = w' := by
  subst hk
  obtain ⟨a, c, n, m, h⟩ := H
  exact names_walk h
theorem newS_nil : newS [] = ⟨[], 0, Sym.at 0, allN, 0, 0⟩ := rfl

/-- what is carried from name to name. -/
structure Ints (s : Sc) (W : List (List UInt8)) (full : Bool) : Prop where
  names : s.names = W
  err : s.err = if full then 62 else 0
  nd : W.Nodup
  le : W.length ≤ 700
  n57 : 57 ≤ W.length

def wantOf (W : List (List UInt8)) (x : ByteArray) (may : Bool) : Int := if may then (if x.data.toList ∈ W then (W.idxOf x.data.toList : Int) else -1) else -1

theorem Ints.no {s : Sc} {W : List (List UInt8)} {full : Bool} (h : Ints s W full) {x : ByteArray} (hn : okN (nums x) = false) : s.pub x = (-1, s) := by unfold Sc.pub; rw [hn]; rfl
theorem Ints.old {s : Sc} {W : List (List UInt8)} {full : Bool} (h : Ints s W full) {x : ByteArray} (hn : okN (nums x) = true) (hm : x.data.toList ∈ W) : s.pub x = ((W.idxOf x.data.toList : Int), s) := by
  unfold Sc.pub; rw [hn]; simp only [if_true]; unfold Sc.intern; rw [h.names, if_pos hm]
theorem Ints.full' {s : Sc} {W : List (List UInt8)} {full : Bool} (h : Ints s W full) {x : ByteArray} (hn : okN (nums x) = true) (hm : x.data.toList ∉ W) (hl : 700 ≤ W.length) : s.pub x = (-1, s.mark 62) ∧ Ints (s.mark 62) W true := by
  refine ⟨by unfold Sc.pub; rw [hn]; simp only [if_true]; unfold Sc.intern; rw [h.names, if_neg hm, if_pos hl], ?_⟩
  unfold Sc.mark
  by_cases he : s.err = 0
  · rw [markAt_new he (by decide)]
    exact ⟨h.names, rfl, h.nd, h.le, h.n57⟩
  · rw [markAt_err he]
    refine ⟨h.names, ?_, h.nd, h.le, h.n57⟩
    have := h.err
    cases full
    · simp at this; exact absurd this he
    · exact this
theorem Ints.new {s : Sc} {W : List (List UInt8)} {full : Bool} (h : Ints s W full) {x : ByteArray} (hn : okN (nums x) = true) (hm : x.data.toList ∉ W) (hl : W.length < 700) : s.pub x = ((W.length : Int), { s with names := W ++ [x.data.toList] }) ∧ Ints { s with names := W ++ [x.data.toList] } (W ++ [x.data.toList]) full := by
  refine ⟨by unfold Sc.pub; rw [hn]; simp only [if_true]; unfold Sc.intern; rw [h.names, if_neg hm, if_neg (by omega)], rfl, h.err, ?_, by simp; omega, by simp; have := h.n57; omega⟩
  exact List.nodup_append.2 ⟨h.nd, by simp, fun y hy z hz => by simp at hz; subst hz; intro e; subst e; exact hm hy⟩

/-- may, behind k bytes. -/
def mayAt (l : List Int) (k : Nat) : Bool := (decide (1 ≤ l.length) && decide (l.length ≤ 15)) && (decide (k = 0) || (letterB (l.getD 0 0) && (l.take k).all ldB))
theorem mayAt_zero (l : List Int) : mayAt l 0 = (decide (1 ≤ l.length) && decide (l.length ≤ 15)) := by unfold mayAt; simp
theorem mayAt_succ (l : List Int) (k : Nat) (hk : k < l.length) : mayAt l (k + 1) = (mayAt l k && (letterB (l.getD k 0) || (digitB (l.getD k 0) && decide (0 < k)))) := by
  unfold mayAt
  rw [take_snoc' l k hk, List.all_append]
  cases k with
  | zero =>
    simp only [List.take_zero, List.all_nil, Bool.true_and, List.all_cons, Bool.and_true]
    unfold ldB
    cases letterB (l.getD 0 0) <;> simp
  | succ k =>
    simp only [List.all_cons, List.all_nil, Bool.and_true]
    unfold ldB
    simp [Bool.and_assoc]
theorem mayAt_end (l : List Int) : mayAt l l.length = okN l := by
  unfold mayAt okN base1
  rw [List.take_length]
  cases l with
  | nil => rfl
  | cons x l => simp [Bool.and_assoc]
/-- where a byte lies. -/
theorem byte_case (v : Int) : (¬ 48 ≤ v ∧ ¬ 65 ≤ v ∧ ¬ 97 ≤ v ∧ letterB v = false ∧ digitB v = false) ∨ (48 ≤ v ∧ v ≤ 57 ∧ ¬ 65 ≤ v ∧ ¬ 97 ≤ v ∧ letterB v = false ∧ digitB v = true) ∨ (48 ≤ v ∧ ¬ v ≤ 57 ∧ ¬ 65 ≤ v ∧ ¬ 97 ≤ v ∧ letterB v = false ∧ digitB v = false) ∨
    (48 ≤ v ∧ ¬ v ≤ 57 ∧ 65 ≤ v ∧ v ≤ 90 ∧ letterB v = true ∧ digitB v = false) ∨ (48 ≤ v ∧ ¬ v ≤ 57 ∧ 65 ≤ v ∧ ¬ v ≤ 90 ∧ ¬ 97 ≤ v ∧ letterB v = false ∧ digitB v = false) ∨ (48 ≤ v ∧ ¬ v ≤ 57 ∧ 65 ≤ v ∧ ¬ v ≤ 90 ∧ 97 ≤ v ∧ v ≤ 122 ∧ letterB v = true ∧ digitB v = false) ∨ (48 ≤ v ∧ ¬ v ≤ 57 ∧ 65 ≤ v ∧ ¬ v ≤ 90 ∧ 97 ≤ v ∧ ¬ v ≤ 122 ∧ letterB v = false ∧ digitB v = false) := by
  have lf : (¬ 65 ≤ v ∨ ¬ v ≤ 90) → (¬ 97 ≤ v ∨ ¬ v ≤ 122) → letterB v = false := fun h1 h2 => by
    unfold letterB
    rw [Bool.or_eq_false_iff, Bool.and_eq_false_iff, Bool.and_eq_false_iff]
    simp only [decide_eq_false_iff_not]
    exact ⟨h1, h2⟩
  have lt : (65 ≤ v ∧ v ≤ 90 ∨ 97 ≤ v ∧ v ≤ 122) → letterB v = true := fun h => by
    unfold letterB
    simp only [Bool.or_eq_true, Bool.and_eq_true, decide_eq_true_eq]
    exact h
  have df : (¬ 48 ≤ v ∨ ¬ v ≤ 57) → digitB v = false := fun h => by
    unfold digitB
    rw [Bool.and_eq_false_iff]
    simp only [decide_eq_false_iff_not]
    exact h
  by_cases h48 : 48 ≤ v
  · by_cases h57 : v ≤ 57
    · exact .inr (.inl ⟨h48, h57, by omega, by omega, lf (.inl (by omega)) (.inl (by omega)), by unfold digitB; simp [h48, h57]⟩)
    · by_cases h65 : 65 ≤ v
      · by_cases h90 : v ≤ 90
        · exact .inr (.inr (.inr (.inl ⟨h48, h57, h65, h90, lt (.inl ⟨h65, h90⟩), df (.inr h57)⟩)))
        · by_cases h97 : 97 ≤ v
          · by_cases h122 : v ≤ 122
            · exact .inr (.inr (.inr (.inr (.inr (.inl ⟨h48, h57, h65, h90, h97, h122, lt (.inr ⟨h97, h122⟩), df (.inr h57)⟩)))))
            · exact .inr (.inr (.inr (.inr (.inr (.inr ⟨h48, h57, h65, h90, h97, h122, lf (.inr h90) (.inr h122), df (.inr h57)⟩)))))
          · exact .inr (.inr (.inr (.inr (.inl ⟨h48, h57, h65, h90, h97, lf (.inr h90) (.inl h97), df (.inr h57)⟩))))
      · exact .inr (.inr (.inl ⟨h48, h57, h65, by omega, lf (.inl h65) (.inl (by omega)), df (.inr h57)⟩))
  · exact .inl ⟨h48, by omega, by omega, lf (.inl (by omega)) (.inl (by omega)), df (.inl h48)⟩

set_option maxRecDepth 20000 in
set_option maxHeartbeats 16000000 in
theorem interns_law (a0 : Option Addr) (c0 : Nat) (l : List ByteArray) (w : World) (hr : RdS w a0 c0 l) :
    Calls Try.prog 8 #[.slice a0 l.length c0] w fun e w' => e = .returned (.bool true) ∧ Below w.heap.size w w' := by
  have HR := Lib.hid hr
  have i0 : (l.length : Int) ≤ 9223372036854775807 := by have := hr.row.le; have := hr.row.cap; unfold maxLen at *; omega
  clear hr
  by_cases h800 : 800 < l.length
  · go_enter Try.func8, Try.ntmps8
    go_wp2_with (refine (known_walk _).mono ?_; rintro e w13 ⟨rfl, hb⟩; have B13 := Lib.hid hb; clear hb)
    go_ret
    exact ⟨rfl, B13.out⟩
  · have h800' : (l.length : Int) ≤ 800 := by omega
    go_enter Try.func8, Try.ntmps8
    have f1 : True := trivial
    have f3 : True := trivial
    have f4 : True := trivial
    have f5 : True := trivial
    go_wp2_with (first | (have _f := f1; refine (new_walk (w := w) (a0 := none) (c0 := 0) (src := []) ⟨RdC.nilSlice w, fun x hx => by cases hx⟩ (by decide)).mono ?_; rintro e w1 ⟨g, rfl, hs, hb⟩; have HS1 := Lib.hid hs; have HB1 := Lib.hid hb; clear hs hb _f f1) | (have _f := f3; refine (words_walk _).mono ?_; rintro e w4 ⟨rfl, hw4⟩; have HW4 := Lib.hid hw4; clear hw4 _f f3) | (have _f := f4; refine (outside_walk _).mono ?_; rintro e w5 ⟨rfl, hw5⟩; have HW5 := Lib.hid hw5; have HOK : Hid (w5.ownsRow 0 9 1 (.slice (some ⟨w1.heap.size, 0, none⟩) 29 29) 29 (kwB.map nameV)) := Lib.hid (own_lit (by rw [hw5, HW4.out]; exact (At.new _ _ _).old _) 29 rfl (by unfold maxLen; omega)); have HRP : Hid (RdC w5 (some ⟨w4.heap.size, 0, none⟩) 28 28 (preB.map nameV)) := Lib.hid (by rw [hw5]; exact rd_at (At.new w4 (preB.map nameV).toArray _) (by rw [List.size_toArray]; show 28 ≤ maxLen; unfold maxLen; omega)); clear hw5 _f f4) | (have _f := f5; at_builtin; refine append_at rfl (.tmp 21) (.tmp 22) et_str rfl 0 rfl HOK.out rfl HRP.out rfl (fun u hu => by obtain ⟨x, _, rfl⟩ := List.mem_map.1 hu; rfl) (by decide) (by decide) (Nat.zero_le _) ?_; intro v6 w6 own6 gr6 at6; obtain ⟨va, vc, rfl, rd6⟩ := RdC.own own6; have HO6 := Lib.hid own6; have HG6 := Lib.hid gr6; have HAt6 := Lib.hid at6; clear own6 gr6 at6 rd6 _f f5))
    have hb16 : Below w1.heap.size w1 w6 := by
      have k5 : Ke (· = w1.heap.size) w1 w5 := Ke.below _ (by rw [HW5.out, HW4.out]; exact bel2 _ _ _)
      have k6 : Ke (· = w1.heap.size) w5 w6 := (Ke.grown HG6.out).mono (fun i _ e => (Option.some.inj e).symm)
      exact (k5.trans k6).toBelow (fun i hi e => absurd e (Nat.ne_of_lt hi))
    have HS6 := Lib.hid (HS1.out.more hb16)
    have HB6 := Lib.hid (bel_then HB1.out hb16)
    have HV6 : Hid (w6.ownsRow 0 9 1 (.slice va 57 vc) 57 (allN.map nameV)) := Lib.hid (by have := HO6.out; rw [← List.map_append] at this; exact this)
    have HVB : Hid (∀ b, (Value.slice va 57 vc).ownBlock = some b → (fun i => i < w.heap.size ∨ (w1.heap.size ≤ i ∧ i < w6.heap.size)) b ∧ w.heap.size ≤ b) := Lib.hid (fun b hb => by
      have h1 := (HV6.out.lt b hb).2
      have h2 : w1.heap.size ≤ w5.heap.size := by rw [HW5.out, HW4.out]; simp; omega
      rcases HAt6.out with h | h
      · have h3 : (Value.slice va 57 vc).ownBlock = some w1.heap.size := h
        rw [h3] at hb
        have := Option.some.inj hb
        have h5 := HB1.out.size
        exact ⟨.inr ⟨by omega, h1⟩, by omega⟩
      · have h3 : (Value.slice va 57 vc).ownBlock = some w5.heap.size := h
        rw [h3] at hb
        have := Option.some.inj hb
        have h5 := HB1.out.size
        exact ⟨.inr ⟨by omega, h1⟩, by omega⟩)
    clear hb16
    go_loopg [4, 5, 6] l.length (fun gk V fv idx wr => ∃ (j : Nat) (F : Nat → Prop) (s : Sc) (W : List (List UInt8)) (full : Bool), j ≤ l.length ∧ l.length - j ≤ gk ∧ idx = .int .i64 j ∧ fv = .bool full ∧ Scn F wr g s ∧ Ints s W full ∧ wr.ownsRow 0 9 1 V W.length (W.map nameV) ∧
      (∀ k, k < w.heap.size → F k) ∧ (∀ b, V.ownBlock = some b → F b ∧ w.heap.size ≤ b) ∧ (∀ k, F k → k < wr.heap.size) ∧ Below w.heap.size w wr)
    case atStart => exact ⟨0, _, newS [], allN, false, Nat.zero_le _, Nat.sub_le _ _, rfl, rfl, HS6.out, ⟨rfl, rfl, allN_nodup, by decide, by decide⟩, HV6.out, fun k hk => .inl hk, HVB.out, fun k hk => by rcases hk with hk | hk; exact Nat.lt_of_lt_of_le hk HB6.out.size; exact hk.2, HB6.out⟩
    case round =>
      obtain ⟨go, rfl⟩ : ∃ go, go = gk := ⟨_, rfl⟩
      obtain ⟨wo, rfl⟩ : ∃ wo, wo = wr := ⟨_, rfl⟩
      obtain ⟨j, F, s, W, full, hj, hgk, rfl, rfl, hs, hi, hv, hf1, hf2, hf3, hb⟩ := hrel
      have HS := Lib.hid hs
      have HI := Lib.hid hi
      have HV := Lib.hid hv
      have HF1 := Lib.hid hf1
      have HF2 := Lib.hid hf2
      have HF3 := Lib.hid hf3
      have HB := Lib.hid hb
      have HG := Lib.hid hgk
      have j1 : (0 : Int) ≤ j := by omega
      obtain ⟨p, d, rfl, hrd⟩ := RdC.own hv
      have W1 : (W.length : Int) ≤ 700 := by have := hi.le; omega
      by_cases hjl : j < l.length
      · have j3 : (j : Int) < l.length := by omega
        have hrow := HR.out.row.below HB.out (Nat.le_refl _)
        obtain ⟨b, o, hbo, hcell⟩ := hrow.at'
        have hab := (hbo (by rw [List.length_map]; omega)).1
        obtain ⟨x, hx⟩ : ∃ x, l[j]? = some x := ⟨l[j], List.getElem?_eq_getElem hjl⟩
        have cx : wo.cell? ⟨b, o + j, none⟩ = some (.string x) := hcell j _ (by rw [List.getElem?_map, hx]; rfl)
        have hxz : x.size ≤ 9223372036854775807 := by have := HR.out.sz x (List.mem_of_getElem? hx); unfold maxLen at this; omega
        clear hs hi hv hf1 hf2 hf3 hb hgk hj hrd hrow hbo hcell hx
        subst hab
        by_cases h40 : 40 < x.size
        · go_wp2_with (refine (known_walk _).mono ?_; rintro e w13 ⟨rfl, hb⟩; have B13 := Lib.hid (bel_then HB.out hb); clear hb)
          go_ret
          exact ⟨rfl, B13.out⟩
        · have h40' : (x.size : Int) ≤ 40 := by omega
          obtain ⟨c, hc⟩ : ∃ c, mayAt (nums x) 0 = c := ⟨_, rfl⟩
          have HC := Lib.hid hc
          have hcc : (1 ≤ x.size ∧ decide ((x.size : Int) ≤ 15) = c) ∨ (x.size < 1 ∧ c = false) := by
            rw [mayAt_zero, nums_len] at hc
            by_cases h1 : 1 ≤ x.size
            · refine .inl ⟨h1, ?_⟩
              rw [← hc, decide_eq_true h1, Bool.true_and]
              congr 1
              exact propext ⟨fun h => by omega, fun h => by omega⟩
            · exact .inr ⟨by omega, by rw [← hc]; simp [h1]⟩
          clear hc
          rcases hcc with ⟨h1, h2⟩ | ⟨h1, rfl⟩
          all_goals
            go_wp2
            go_loopg [8, 9] x.size (fun gm mv kv wk => ∃ (k : Nat) (ok : Bool), k ≤ x.size ∧ x.size - k ≤ gm ∧ mv = .bool ok ∧ kv = .int .i64 k ∧ mayAt (nums x) k = ok ∧ wk = wo)
            case atStart => exact ⟨0, _, Nat.zero_le _, Nat.sub_le _ _, rfl, rfl, HC.out, rfl⟩
            case round =>
              obtain ⟨k, ok, hk, hgm, rfl, rfl, hok, rfl⟩ := hrel
              have HGM := Lib.hid hgm
              have HOK := Lib.hid hok
              have k1 : (0 : Int) ≤ k := by omega
              by_cases hkl : k < x.size
              · have k3 : (k : Int) < x.size := by omega
                have hms := mayAt_succ (nums x) k (by rw [nums_len]; exact hkl)
                rw [nums_at x k hkl, hok] at hms
                have HMS := Lib.hid hms
                have hbc := byte_case (((x[k]'hkl).toNat : Nat) : Int)
                clear hgm hok hk hms
                cases ok
                · rcases hbc with ⟨b1, b2, b3, b4, b5⟩ | ⟨b1, b2, b3, b4, b5, b6⟩ | ⟨b1, b2, b3, b4, b5, b6⟩ | ⟨b1, b2, b3, b4, b5, b6⟩ | ⟨b1, b2, b3, b4, b5, b6, b7⟩ | ⟨b1, b2, b3, b4, b5, b6, b7, b8⟩ | ⟨b1, b2, b3, b4, b5, b6, b7, b8⟩
                  all_goals
                    have HB' : Hid (mayAt (nums x) (k + 1) = false) := Lib.hid (by rw [HMS.out]; rfl)
                    go_wp2
                    go_roundg (gk - 1)
                    case measure => have := HGM.out; omega
                    case rel => exact ⟨k + 1, false, hkl, by have := HGM.out; omega, rfl, by go_num, HB'.out, rfl⟩
                · by_cases hk0 : k = 0
                  · subst hk0
                    rcases hbc with ⟨b1, b2, b3, b4, b5⟩ | ⟨b1, b2, b3, b4, b5, b6⟩ | ⟨b1, b2, b3, b4, b5, b6⟩ | ⟨b1, b2, b3, b4, b5, b6⟩ | ⟨b1, b2, b3, b4, b5, b6, b7⟩ | ⟨b1, b2, b3, b4, b5, b6, b7, b8⟩ | ⟨b1, b2, b3, b4, b5, b6, b7, b8⟩
                    · have HB' : Hid (mayAt (nums x) (0 + 1) = false) := Lib.hid (by rw [HMS.out, b4, b5]; rfl)
                      go_wp2
                      go_roundg (gk - 1)
                      case measure => have := HGM.out; omega
                      case rel => exact ⟨0 + 1, false, hkl, by have := HGM.out; omega, rfl, by go_num, HB'.out, rfl⟩
                    · have HB' : Hid (mayAt (nums x) (0 + 1) = false) := Lib.hid (by rw [HMS.out, b5, b6]; rfl)
                      go_wp2
                      go_roundg (gk - 1)
                      case measure => have := HGM.out; omega
                      case rel => exact ⟨0 + 1, false, hkl, by have := HGM.out; omega, rfl, by go_num, HB'.out, rfl⟩
                    · have HB' : Hid (mayAt (nums x) (0 + 1) = false) := Lib.hid (by rw [HMS.out, b5, b6]; rfl)
                      go_wp2
                      go_roundg (gk - 1)
                      case measure => have := HGM.out; omega
                      case rel => exact ⟨0 + 1, false, hkl, by have := HGM.out; omega, rfl, by go_num, HB'.out, rfl⟩
                    · have HB' : Hid (mayAt (nums x) (0 + 1) = true) := Lib.hid (by rw [HMS.out, b5, b6]; rfl)
                      go_wp2
                      go_roundg (gk - 1)
                      case measure => have := HGM.out; omega
                      case rel => exact ⟨0 + 1, true, hkl, by have := HGM.out; omega, rfl, by go_num, HB'.out, rfl⟩
                    · have HB' : Hid (mayAt (nums x) (0 + 1) = false) := Lib.hid (by rw [HMS.out, b6, b7]; rfl)
                      go_wp2
                      go_roundg (gk - 1)
                      case measure => have := HGM.out; omega
                      case rel => exact ⟨0 + 1, false, hkl, by have := HGM.out; omega, rfl, by go_num, HB'.out, rfl⟩
                    · have HB' : Hid (mayAt (nums x) (0 + 1) = true) := Lib.hid (by rw [HMS.out, b7, b8]; rfl)
                      go_wp2
                      go_roundg (gk - 1)
                      case measure => have := HGM.out; omega
                      case rel => exact ⟨0 + 1, true, hkl, by have := HGM.out; omega, rfl, by go_num, HB'.out, rfl⟩
                    · have HB' : Hid (mayAt (nums x) (0 + 1) = false) := Lib.hid (by rw [HMS.out, b7, b8]; rfl)
                      go_wp2
                      go_roundg (gk - 1)
                      case measure => have := HGM.out; omega
                      case rel => exact ⟨0 + 1, false, hkl, by have := HGM.out; omega, rfl, by go_num, HB'.out, rfl⟩
                  · have hk1 : 0 < k := by omega
                    rcases hbc with ⟨b1, b2, b3, b4, b5⟩ | ⟨b1, b2, b3, b4, b5, b6⟩ | ⟨b1, b2, b3, b4, b5, b6⟩ | ⟨b1, b2, b3, b4, b5, b6⟩ | ⟨b1, b2, b3, b4, b5, b6, b7⟩ | ⟨b1, b2, b3, b4, b5, b6, b7, b8⟩ | ⟨b1, b2, b3, b4, b5, b6, b7, b8⟩
                    · have HB' : Hid (mayAt (nums x) (k + 1) = false) := Lib.hid (by rw [HMS.out, b4, b5, decide_eq_true hk1]; rfl)
                      go_wp2
                      go_roundg (gk - 1)
                      case measure => have := HGM.out; omega
                      case rel => exact ⟨k + 1, false, hkl, by have := HGM.out; omega, rfl, by go_num, HB'.out, rfl⟩
                    · have HB' : Hid (mayAt (nums x) (k + 1) = true) := Lib.hid (by rw [HMS.out, b5, b6, decide_eq_true hk1]; rfl)
                      go_wp2
                      go_roundg (gk - 1)
                      case measure => have := HGM.out; omega
                      case rel => exact ⟨k + 1, true, hkl, by have := HGM.out; omega, rfl, by go_num, HB'.out, rfl⟩
                    · have HB' : Hid (mayAt (nums x) (k + 1) = false) := Lib.hid (by rw [HMS.out, b5, b6, decide_eq_true hk1]; rfl)
                      go_wp2
                      go_roundg (gk - 1)
                      case measure => have := HGM.out; omega
                      case rel => exact ⟨k + 1, false, hkl, by have := HGM.out; omega, rfl, by go_num, HB'.out, rfl⟩
                    · have HB' : Hid (mayAt (nums x) (k + 1) = true) := Lib.hid (by rw [HMS.out, b5, b6, decide_eq_true hk1]; rfl)
                      go_wp2
                      go_roundg (gk - 1)
                      case measure => have := HGM.out; omega
                      case rel => exact ⟨k + 1, true, hkl, by have := HGM.out; omega, rfl, by go_num, HB'.out, rfl⟩
                    · have HB' : Hid (mayAt (nums x) (k + 1) = false) := Lib.hid (by rw [HMS.out, b6, b7, decide_eq_true hk1]; rfl)
                      go_wp2
                      go_roundg (gk - 1)
                      case measure => have := HGM.out; omega
                      case rel => exact ⟨k + 1, false, hkl, by have := HGM.out; omega, rfl, by go_num, HB'.out, rfl⟩
                    · have HB' : Hid (mayAt (nums x) (k + 1) = true) := Lib.hid (by rw [HMS.out, b7, b8, decide_eq_true hk1]; rfl)
                      go_wp2
                      go_roundg (gk - 1)
                      case measure => have := HGM.out; omega
                      case rel => exact ⟨k + 1, true, hkl, by have := HGM.out; omega, rfl, by go_num, HB'.out, rfl⟩
                    · have HB' : Hid (mayAt (nums x) (k + 1) = false) := Lib.hid (by rw [HMS.out, b7, b8, decide_eq_true hk1]; rfl)
                      go_wp2
                      go_roundg (gk - 1)
                      case measure => have := HGM.out; omega
                      case rel => exact ⟨k + 1, false, hkl, by have := HGM.out; omega, rfl, by go_num, HB'.out, rfl⟩
              · have hks : k = x.size := by omega
                have HOKN : Hid (okN (nums x) = ok) := Lib.hid (by rw [← hok, hks, ← nums_len, mayAt_end])
                clear hgm hok hk
                subst hks
                obtain ⟨_, h6⟩ := HV.out
                rcases h6 with ⟨_, h6⟩ | ⟨vb, cap, cur, he6, _, hc6, hc7, hc8, hc9, hc10⟩
                · exact absurd h6 (by have := HI.out.n57; omega)
                simp only [Value.slice.injEq] at he6
                obtain ⟨rfl, _, rfl⟩ := he6
                have HCur : Hid (∀ (i : Nat) (y : List UInt8), W[i]? = some y → wr.cell? ⟨vb, i, none⟩ = some (nameV y)) := Lib.hid (fun i y hy => by
                  rw [(show At wr vb cur 9 from hc6).cell i]
                  have hil : i < W.length := (List.getElem?_eq_some_iff.1 hy).1
                  have h10 : (cur.toList.take (W.length * 1))[i]? = some (nameV y) := by rw [hc10, List.getElem?_map, hy]; rfl
                  rw [List.getElem?_take, if_pos (by omega)] at h10
                  simpa using h10)
                have W0 : 0 < W.length := by have := HI.out.n57; omega
                clear hc6 hc7 hc8 hc9 hc10
                have hx100 := Lib.hid (show x.size ≤ 100000 by omega)
                cases ok
                · go_wp2
                  go_loopg [12, 13] 1 (fun gk wv kv wk => wv = .int .i64 (-1) ∧ kv = .int .i64 0 ∧ wk = wr)
                  case atStart => exact ⟨rfl, rfl, rfl⟩
                  case round =>
                    obtain ⟨rfl, rfl, rfl⟩ := hrel
                    go_wp2_with (refine (pub_walk HS.out HF3.out x hx100.out).mono ?_; rw [HI.out.no HOKN.out]; rintro e w9 ⟨rfl, h9, k9⟩; have HS9 := Lib.hid h9; have HK9 := Lib.hid k9; clear h9 k9)
                    go_roundg (go - 1)
                    case measure => have := HG.out; omega
                    case rel => exact ⟨j + 1, F, s, W, full, hjl, by have := HG.out; omega, by go_num, rfl, HS9.out, HI.out, ownsRow_ke HV.out HK9.out (fun b hb e => e (HF2.out b hb).1), HF1.out, HF2.out, fun k hk => Nat.lt_of_lt_of_le (HF3.out k hk) HK9.out.size, bel_off HB.out HK9.out HF1.out⟩
                · go_wp2
                  go_loopg [12, 13] W.length (fun gk wv kv wk => ∃ (i : Nat) (wt : Int), i ≤ W.length ∧ W.length - i ≤ gk ∧ wv = .int .i64 wt ∧ kv = .int .i64 i ∧ (if x.data.toList ∈ W.take i then (W.idxOf x.data.toList : Int) else -1) = wt ∧ wk = wr)
                  case atStart => exact ⟨0, -1, Nat.zero_le _, Nat.sub_le _ _, rfl, rfl, by simp, rfl⟩
                  case round =>
                    obtain ⟨i, wt, hi, hgi, rfl, rfl, hwt, rfl⟩ := hrel
                    have HGI := Lib.hid hgi
                    have HWT := Lib.hid hwt
                    have i1 : (0 : Int) ≤ i := by omega
                    by_cases hil : i < W.length
                    · have i3 : (i : Int) < W.length := by omega
                      obtain ⟨y, hy⟩ : ∃ y, W[i]? = some y := ⟨_, List.getElem?_eq_getElem hil⟩
                      obtain ⟨yb, hyb⟩ : ∃ yb : ByteArray, nameV y = .string yb := ⟨_, rfl⟩
                      have hcy : wr.cell? ⟨vb, i, none⟩ = some (.string yb) := by rw [← hyb]; exact HCur.out i y hy
                      have hyx : (yb = x) ↔ y = x.data.toList := by
                        constructor
                        · intro e; subst e
                          have h1 := hyb
                          rw [← nameV_str] at h1
                          unfold nameV at h1
                          simp only [Value.string.injEq, ByteArray.mk.injEq] at h1
                          have h2 := congrArg Array.toList h1
                          simpa using h2
                        · intro e; subst e; rw [nameV_str] at hyb; simpa using hyb.symm
                      have HTK := Lib.hid (show W.take (i + 1) = W.take i ++ [y] by rw [List.take_add_one, hy]; rfl)
                      have HIX := Lib.hid (show y = x.data.toList → W.idxOf x.data.toList = i from fun e => by
                        subst e
                        have hnd := HI.out.nd
                        have hyi : W[i] = x.data.toList := by have := hy; rw [List.getElem?_eq_getElem hil] at this; exact Option.some.inj this
                        have h2 := List.Nodup.idxOf_getElem hnd i hil
                        rw [hyi] at h2; exact h2)
                      clear hi hgi hwt hy hyb
                      by_cases hxy : y = x.data.toList
                      · have hbx : yb = x := hyx.2 hxy
                        subst hbx
                        have HW : Hid ((if yb.data.toList ∈ W.take (i + 1) then (W.idxOf yb.data.toList : Int) else -1) = (i : Int)) := Lib.hid (by rw [if_pos (by rw [HTK.out, hxy]; simp), HIX.out hxy])
                        go_wp2
                        go_roundg (gk - 1)
                        case measure => have := HGI.out; omega
                        case rel => exact ⟨i + 1, (i : Int), hil, by have := HGI.out; omega, rfl, by go_num, HW.out, rfl⟩
                      · have hbx : ¬ yb = x := fun e => hxy (hyx.1 e)
                        have hbe : (yb.toList == x.toList) = false := by
                          cases hq : (yb.toList == x.toList)
                          · rfl
                          · exact absurd (str_ext hq) hbx
                        have HW : Hid ((if x.data.toList ∈ W.take (i + 1) then (W.idxOf x.data.toList : Int) else -1) = wt) := Lib.hid (by
                          rw [← HWT.out, HTK.out]
                          by_cases hm : x.data.toList ∈ W.take i
                          · rw [if_pos hm, if_pos (List.mem_append.2 (.inl hm))]
                          · rw [if_neg hm, if_neg (fun h => by rcases List.mem_append.1 h with h | h; exact hm h; exact hxy (List.mem_singleton.1 h).symm)])
                        clear hyx
                        go_wp2
                        go_roundg (gk - 1)
                        case measure => have := HGI.out; omega
                        case rel => exact ⟨i + 1, wt, hil, by have := HGI.out; omega, rfl, by go_num, HW.out, rfl⟩
                    · have hiW : i = W.length := by omega
                      have HWF := Lib.hid (show (if x.data.toList ∈ W then (W.idxOf x.data.toList : Int) else -1) = wt by rw [← hwt, hiW, List.take_length])
                      clear hi hgi hwt
                      subst hiW
                      by_cases hin : x.data.toList ∈ W
                      · have hwt : wt = (W.idxOf x.data.toList : Int) := by rw [← HWF.out, if_pos hin]
                        have hwt0 : 0 ≤ wt := by omega
                        have HOL := Lib.hid (HI.out.old HOKN.out hin)
                        have HWT2 := Lib.hid hwt
                        clear hwt
                        go_wp2_with (refine (pub_walk HS.out HF3.out x hx100.out).mono ?_; rw [HOL.out, ← HWT2.out]; rintro e w9 ⟨rfl, h9, k9⟩; have HS9 := Lib.hid h9; have HK9 := Lib.hid k9; clear h9 k9)
                        go_roundg (go - 1)
                        case measure => have := HG.out; omega
                        case rel => exact ⟨j + 1, F, s, W, full, hjl, by have := HG.out; omega, by go_num, rfl, HS9.out, HI.out, ownsRow_ke HV.out HK9.out (fun b hb e => e (HF2.out b hb).1), HF1.out, HF2.out, fun k hk => Nat.lt_of_lt_of_le (HF3.out k hk) HK9.out.size, bel_off HB.out HK9.out HF1.out⟩
                      · have hwt : wt = -1 := by rw [← HWF.out, if_neg hin]
                        subst hwt
                        by_cases h700 : 700 ≤ W.length
                        · have h700' : (700 : Int) ≤ W.length := by omega
                          have HFU := Lib.hid (HI.out.full' HOKN.out hin h700)
                          go_wp2_with (refine (pub_walk HS.out HF3.out x hx100.out).mono ?_; rw [HFU.out.1]; rintro e w9 ⟨rfl, h9, k9⟩; have HS9 := Lib.hid h9; have HK9 := Lib.hid k9; clear h9 k9)
                          go_roundg (go - 1)
                          case measure => have := HG.out; omega
                          case rel => exact ⟨j + 1, F, _, W, true, hjl, by have := HG.out; omega, by go_num, rfl, HS9.out, HFU.out.2, ownsRow_ke HV.out HK9.out (fun b hb e => e (HF2.out b hb).1), HF1.out, HF2.out, fun k hk => Nat.lt_of_lt_of_le (HF3.out k hk) HK9.out.size, bel_off HB.out HK9.out HF1.out⟩
                        · have h700' : (W.length : Int) < 700 := by omega
                          have HNW := Lib.hid (HI.out.new HOKN.out hin (by omega))
                          have HO : Hid ((wr.alloc (.cells #[.string x] 9)).ownsRow 0 9 1 (.slice (some ⟨vb, 0, none⟩) W.length d) W.length (W.map nameV)) := Lib.hid (ownsRow_ke HV.out (Ke.below Non (bel1 _ _)) (fun _ _ h => h))
                          have HRd := Lib.hid (rd_at (At.new wr #[.string x] 9) (show 1 ≤ maxLen by unfold maxLen; omega))
                          have hle1 := Lib.hid (show (W.length + 1) * 16 ≤ 140737488355328 by omega)
                          have hle2 := Lib.hid (show W.length + 1 ≤ 140737488355328 by omega)
                          have hone := Lib.hid (show ∀ u ∈ (#[.string x] : Array Value).toList, u.oneCell' = true by intro u hu; simp at hu; subst hu; rfl)
                          have HSA := Lib.hid (HS.out.bel (bel1 wr (.cells #[.string x] 9)))
                          have f8 : True := trivial
                          have f9 : True := trivial
                          go_wp2_with (first | (have _f := f8; at_builtin; refine append_at rfl (.tmp 121) (.tmp 123) et_str rfl 0 rfl HO.out rfl HRd.out rfl hone.out hle1.out hle2.out (Nat.zero_le _) ?_; intro v4 w8 own4 gr4 at4; obtain ⟨a4, c4, rfl, rd4⟩ := RdC.own own4; have HO4 := Lib.hid own4; have HG4 := Lib.hid gr4; have HAt4 := Lib.hid at4; have HS8 := Lib.hid (HSA.out.grow HO.out gr4 (fun b hb => (HF2.out b hb).1)); have HF8 := Lib.hid (show ∀ k, (F k ∨ ((wr.alloc (.cells #[.string x] 9)).heap.size ≤ k ∧ k < w8.heap.size)) → k < w8.heap.size from fun k hk => (by rcases hk with hk | hk; exact Nat.lt_of_lt_of_le (HF3.out k hk) (Nat.le_trans (bel1 wr (.cells #[.string x] 9)).size gr4.size); exact hk.2)); clear own4 gr4 rd4 at4 _f f8) | (have _f := f9; refine (pub_walk HS8.out HF8.out x hx100.out).mono ?_; rw [HNW.out.1]; rintro e w9 ⟨rfl, h9, k9⟩; have HS9 := Lib.hid h9; have HK9 := Lib.hid k9; clear h9 k9 _f f9))
                          have HBB : Hid (∀ b, (Value.slice a4 (W.length + 1) c4).ownBlock = some b → (fun i => F i ∨ ((wr.alloc (.cells #[.string x] 9)).heap.size ≤ i ∧ i < w8.heap.size)) b ∧ w.heap.size ≤ b) := Lib.hid (fun b hb => by
                            have h1 := (HO4.out.lt b hb).2
                            rcases HAt4.out with h | h
                            · have h3 : (Value.slice a4 (W.length + 1) c4).ownBlock = (Value.slice (some ⟨vb, 0, none⟩) W.length d).ownBlock := h
                              exact ⟨.inl (HF2.out b (h3 ▸ hb)).1, (HF2.out b (h3 ▸ hb)).2⟩
                            · have h3 : (Value.slice a4 (W.length + 1) c4).ownBlock = some (wr.alloc (.cells #[.string x] 9)).heap.size := h
                              rw [h3] at hb
                              have h4 := Option.some.inj hb
                              have h5 := HB.out.size
                              have h6 := (bel1 wr (.cells #[.string x] 9)).size
                              exact ⟨.inr ⟨by omega, h1⟩, by omega⟩)
                          have HVV : Hid (w8.ownsRow 0 9 1 (.slice a4 (W.length + 1) c4) (W ++ [x.data.toList]).length ((W ++ [x.data.toList]).map nameV)) := Lib.hid (by
                            have := HO4.out
                            rw [List.length_append, List.map_append, List.map_cons, nameV_str]
                            exact this)
                          have HBw : Hid (Below w.heap.size w w9) := Lib.hid (by
                            have k1 : Ke (fun i => w.heap.size ≤ i) wr (wr.alloc (.cells #[.string x] 9)) := Ke.below _ (bel1 _ _)
                            have k2 : Ke (fun i => w.heap.size ≤ i) (wr.alloc (.cells #[.string x] 9)) w8 := (Ke.grown HG4.out).mono (fun i _ e => (HF2.out i e).2)
                            have k3 : Ke (fun i => w.heap.size ≤ i) w8 w9 := HK9.out.mono (fun i _ h => Nat.le_of_not_lt (fun hi => h (.inl (HF1.out i hi))))
                            exact ((Ke.below _ HB.out).trans (k1.trans (k2.trans k3))).toBelow (fun i hi e => absurd e (Nat.not_le_of_lt hi)))
                          go_roundg (go - 1)
                          case measure => have := HG.out; omega
                          case rel => exact ⟨j + 1, _, _, W ++ [x.data.toList], full, hjl, by have := HG.out; omega, by go_num, rfl, HS9.out, HNW.out.2, ownsRow_ke HVV.out HK9.out (fun b hb e => e (HBB.out b hb).1), fun k hk => .inl (HF1.out k hk), HBB.out, fun k hk => Nat.lt_of_lt_of_le (HF8.out k hk) HK9.out.size, HBw.out⟩
      · have hjl' : j = l.length := by omega
        clear hf1 hf2 hf3 hgk hj hrd
        subst hjl'
        obtain ⟨e0, he0⟩ : ∃ e0, s.err = e0 := ⟨_, rfl⟩
        obtain ⟨q0, hq0⟩ : ∃ q0, s.pos = q0 := ⟨_, rfl⟩
        have hef : (full = true ∧ e0 = 62) ∨ (full = false ∧ e0 = 0) := by
          have := hi.err
          rw [he0] at this
          cases full
          · exact .inr ⟨rfl, this⟩
          · exact .inl ⟨rfl, this⟩
        have HE0 := Lib.hid (show s.err = e0 ∧ s.pos = q0 from ⟨he0, hq0⟩)
        have HNL := Lib.hid (show s.names.length = W.length by rw [hi.names])
        clear hs hi hv hb he0 hq0
        have f1 : True := trivial
        have f2 : True := trivial
        have f9 : True := trivial
        rcases hef with ⟨rfl, rfl⟩ | ⟨rfl, rfl⟩
        all_goals
          go_wp2_with (first | (have _f := f1; refine (err_is HS.out _ _ HE0.out.1 HE0.out.2).mono ?_; rintro e w2 ⟨rfl, hb⟩; have HS2 := Lib.hid (HS.out.bel hb); have HB2 := Lib.hid (bel_then HB.out hb); clear hb _f f1) | (have _f := f2; refine (names_is HS2.out W.length HNL.out).mono ?_; rintro e w' ⟨rfl, rfl⟩; clear _f f2) | (have _f := f9; refine (known_walk _).mono ?_; rintro e w13 ⟨rfl, hb⟩; have B13 := Lib.hid (bel_then HB2.out hb); clear hb _f f9))
          go_ret
          exact ⟨rfl, B13.out⟩

end Go.Proofs.Ytdgiijidgjagbaa
