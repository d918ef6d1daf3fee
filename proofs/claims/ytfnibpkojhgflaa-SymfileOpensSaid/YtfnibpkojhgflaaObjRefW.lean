/- Contracts: the reference's Word, Name. -/
import Derived.Test.YtfnibpkojhgflaaObjMay0
import Derived.Test.YtfnibpkojhgflaaSep
import Derived.Test.YtfnibpkojhgflaaAppAt
import Derived.Test.YtfnibpkojhgflaaSepApp
import Derived.StillTailTactics
import Derived.Lib.AppendStr
namespace Go.Proofs.Ytfnibpkojhgflaa
set_option linter.unusedVariables false
set_option linter.unusedSimpArgs false
open Go.RowKit

/-- a row of the call's own was written. -/
theorem bel_own {w0 w w' : World} {e : TypeId} {size n : Nat} {v : Value} {xs : List Value} (hb : Below w0.heap.size w0 w) (own : w.ownsRow w0.heap.size e size v n xs) (hg : w.grownBy w' v.ownBlock) : Below w0.heap.size w0 w' :=
  ((Ke.below (fun i => w0.heap.size ≤ i) hb).trans ((Ke.ofGrown hg).mono (fun i _ e => (own.lt i e).1))).toBelow (fun i hi e => absurd hi (Nat.not_lt.2 e))
theorem ownsRow_bel {w w' : World} {base size n : Nat} {e : TypeId} {v : Value} {xs : List Value} (h : w.ownsRow base e size v n xs) (k : Below w.heap.size w w') : w'.ownsRow base e size v n xs := by
  obtain ⟨h2, h3⟩ := h
  refine ⟨h2, ?_⟩
  rcases h3 with h3 | ⟨b, cap, cur, rfl, q2, q3, q4⟩
  · exact .inl h3
  · exact .inr ⟨b, cap, cur, rfl, q2, (k.block b (Array.getElem?_eq_some_iff.1 q3).1).trans q3, q4⟩
theorem ownsRow_no {w : World} {base n size : Nat} {e t : TypeId} {v : Value} {xs : List Value} {g : Nat} {cs : Array Value} (h : w.ownsRow base e size v n xs) (ha : At w g cs t) (ht : e ≠ t) : v.ownBlock ≠ some g := by
  obtain ⟨_, h3⟩ := h
  rcases h3 with ⟨rfl, _⟩ | ⟨b, cap, cur, rfl, _, q3, _⟩
  · simp [Value.ownBlock]
  · intro e'
    have : b = g := by simpa [Value.ownBlock] using e'
    subst this
    unfold At at ha
    rw [q3] at ha
    simp only [Option.some.injEq, Obj.cells.injEq] at ha
    exact ht ha.2.1
theorem ke_cell {G : Nat → Prop} {w w' : World} {p : Addr} {v : Value} (h : Ke G w w') (hp : p.block < w.heap.size) (hG : ¬ G p.block) (hv : w.cell? p = some v) : w'.cell? p = some v := by
  unfold World.cell? at hv ⊢
  rw [h.block p.block hp hG]; exact hv
theorem et_u8 : ET Try.prog 46 5 (.int .u8 0) 1 1 := ET.of Try.underlying46 (by kernel_rfl) (by decide) (by decide)
theorem info_u8 : (Try.prog.info? 5).map (fun i => (i.zero, i.size, i.bytes)) = some (some (.int .u8 0), 1, 1) := by kernel_rfl
theorem rd_lit8 (w : World) (l : List Int) (h : ∀ x ∈ l, isByte x) (hl : l.length ≤ 1000) : RdI .u8 (w.alloc (.cells (l.map (Value.int .u8)).toArray 5)) (some ⟨w.heap.size, 0, none⟩) l.length l :=
  ⟨⟨⟨w.heap.size, 0, fun _ => ⟨rfl, by simp⟩, fun j u hj => by rw [Nat.zero_add, (At.new w _ 5).cell]; simpa using hj⟩, fun h => (by cases h), Nat.le_refl _, by unfold maxLen; omega⟩, fun x hx => bd_u8' (h x hx)⟩
theorem own_lit8 (w : World) (l : List Int) (hl : l.length ≤ 1000) {B : Nat} (hB : B ≤ w.heap.size) : (w.alloc (.cells (l.map (Value.int .u8)).toArray 5)).ownsRow B 5 1 (.slice (some ⟨w.heap.size, 0, none⟩) l.length l.length) l.length (l.map (Value.int .u8)) :=
  ⟨by simp, .inr ⟨w.heap.size, l.length, _, rfl, hB, At.new w _ 5, Nat.le_refl _, by unfold maxLen; omega, by simp, by rw [Nat.mul_one]; exact List.take_of_length_le (by simp)⟩⟩
theorem strCells_bytes (s : ByteArray) : Lib.strCells s = (bytesI s).map (Value.int .u8) := by
  unfold Lib.strCells bytesI
  rw [List.map_map]; rfl

theorem refWord_walk (n : Int) (w : World) (h : 0 ≤ n ∧ n < 4294967296) :
    Calls Try.prog 46 #[.int .u32 n] w fun e w' => ∃ a c, e = .returned (.slice a 4 c) ∧ RdI .u8 w' a c (wordB n) ∧ Below w.heap.size w w' := by
  obtain ⟨h1, h2⟩ := h
  go_enter Try.func46, Try.ntmps46
  go_wp2
  go_ret
  have hr := rd_lit8 w (wordB n) (wordB_byte n) (show 4 ≤ 1000 by decide)
  have e : wordB n = [n % 256, n / 256 % 256, n / 65536 % 256, n / 16777216] := by unfold wordB; rw [show n / 16777216 % 256 = n / 16777216 by omega]
  rw [e] at hr ⊢
  exact ⟨_, _, rfl, hr, bel1 _ _⟩

theorem nameB_len (s : ByteArray) : (nameB s).length = 1 + s.size := by unfold nameB; rw [List.length_cons, bytesI_len]; omega
theorem nameB_byte (s : ByteArray) : ∀ x ∈ nameB s, isByte x := by
  intro x hx
  unfold nameB at hx
  rcases List.mem_cons.1 hx with rfl | hx
  · exact ⟨by omega, by omega⟩
  · exact bytesI_byte s x hx

set_option maxHeartbeats 1000000 in
theorem refName_walk (s : ByteArray) (w : World) (hs : s.size ≤ 1000000) :
    Calls Try.prog 45 #[.string s] w fun e w' => ∃ a c, e = .returned (.slice a (nameB s).length c) ∧ RdI .u8 w' a c (nameB s) ∧ Below w.heap.size w w' := by
  have h1 : (s.size : Int) ≤ 1000000 := by omega
  have HB1 := Lib.hid (show 1 + s.size ≤ 140737488355328 by omega)
  have HB2 := Lib.hid (show 1 + s.size ≤ maxLen by unfold maxLen; omega)
  have HOW := Lib.hid (own_lit8 w [(s.size : Int) % 256] (show 1 ≤ 1000 by decide) (Nat.le_refl _))
  have HBL := Lib.hid (bel1 w (.cells #[.int .u8 ((s.size : Int) % 256)] 5))
  clear hs
  obtain ⟨ti, hti, hti0, hti1, hti2⟩ := info_parts info_u8
  have HT := Lib.hid (And.intro hti (And.intro hti0 (And.intro hti1 hti2)))
  clear hti hti0 hti1 hti2
  have f1 : True := trivial
  go_enter Try.func45, Try.ntmps45
  go_wp2_with (have _f := f1; refine Lib.wpList_append_own_string _ rfl (.tmp 6) (.tmp 7) 46 9 rfl w.heap.size 5 ti Try.underlying46 Try.underlying9 HT.out.1 HT.out.2.1 HT.out.2.2.1 HT.out.2.2.2 (.slice (some ⟨w.heap.size, 0, none⟩) 1 1) 1 _ rfl HOW.out s rfl HB2.out HB1.out HBL.out.size ?_; intro v' w' own' gr' _; have HB := Lib.hid (bel_own HBL.out HOW.out gr'); have HO := Lib.hid own'; clear own' gr' _f f1)
  go_ret
  have e : ([(s.size : Int) % 256].map (Value.int .u8) ++ Lib.strCells s) = (nameB s).map (Value.int .u8) := by rw [strCells_bytes]; rfl
  have ho := HO.out
  rw [e] at ho
  obtain ⟨a, c, rfl, hr⟩ := RdI.own ho (fun x hx => bd_u8' (nameB_byte s x hx))
  exact ⟨a, c, by rw [nameB_len]; rfl, hr, HB.out⟩
end Go.Proofs.Ytfnibpkojhgflaa
