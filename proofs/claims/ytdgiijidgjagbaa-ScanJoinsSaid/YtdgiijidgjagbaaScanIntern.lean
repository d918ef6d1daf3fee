/- Contract: intern. -/
import Derived.Test.YtdgiijidgjagbaaScanSkip
import Derived.Test.YtdgiijidgjagbaaScanIds
import Derived.Maps.OwnOps
import Derived.Test.YtdgiijidgjagbaaAppAt
namespace Go.Proofs.Ytdgiijidgjagbaa
set_option linter.unusedVariables false
set_option linter.unusedSimpArgs false
open Go.RowKit

variable {F : Nat → Prop} {w w' : World} {g : Nat} {s : Sc} {a : Option Addr} {c : Nat} {n : Value} {m : Nat}

theorem et_str : ET Try.prog 40 9 (.string ⟨#[]⟩) 1 16 := ET.of Try.underlying40 (by kernel_rfl) (by decide) (by decide)
theorem Ke.grown {w w' : World} {row : Option Nat} (h : w.grownBy w' row) : Ke (fun k => row = some k) w w' :=
  ⟨h.os, h.tape, h.output, h.size, fun k hk hG => h.block k hk (fun e => hG e.symm)⟩
theorem rd_at {w : World} {g : Nat} {cs : Array Value} {t : TypeId} (h : At w g cs t) (hc : cs.size ≤ maxLen) : RdC w (some ⟨g, 0, none⟩) cs.size cs.size cs.toList :=
  ⟨⟨g, 0, fun _ => ⟨rfl, h.lt⟩, fun j u hj => by rw [Nat.zero_add, h.cell]; simpa using hj⟩, fun h => (by cases h), Nat.le_refl _, hc⟩
theorem skeyed : Maps.Keyed Try.prog 9 := Maps.string_keyed Try.underlying9
theorem nameV_size (x : List UInt8) : (⟨x.toArray⟩ : ByteArray).size = x.length := by simp [ByteArray.size]
theorem skeyOf {x : List UInt8} (h : x.length ≤ 100000) : keyOf Try.prog 9 (nameV x) = some (.string x) :=
  WideMaps.keyOf_string_mk Try.underlying9 (by rw [nameV_size]; unfold maxLen; omega)
theorem zero_int (w : World) : (zeroValue 3).run Try.prog w = .ok (.int .i64 0) w := by kernel_rfl

def InternIs (F : Nat → Prop) (w : World) (g : Nat) (r : Int × Sc) (a : Option Addr) (c : Nat) (m : Nat) (e : Ending) (w' : World) : Prop :=
  e = .returned (.int .i64 r.1) ∧ (∃ n', ScnX F w' g r.2 a c n' m) ∧ Ke (Off F) w w'

theorem lit64_inv {k : Nat} {c : Int} (h : lit64 k = .lit (.int .i64 c)) : c = k := by
  unfold lit64 at h
  simp only [DataW.lit.injEq, Lit.int.injEq] at h
  exact h.2.symm
theorem nat_wf {k : Nat} (h : k ≤ 100000) : (Lit.int .i64 (k : Int)).wf = true := by
  simp only [Lit.wf, IntKind.min, IntKind.max, IntKind.signed, IntKind.bits, Bool.and_eq_true, decide_eq_true_eq]
  simp
  omega

set_option maxRecDepth 20000 in
set_option maxHeartbeats 4000000 in
theorem intern_old (H : ScnX F w g s a c n m) (x : List UInt8) (hx : x.length ≤ 100000) (hm : x ∈ s.names) :
    Calls Try.prog 42 #[.pointer (some ⟨g, 0, none⟩), nameV x] w (InternIs F w g (s.intern x) a c m) := by
  have c8 : w.cell? ⟨g, 8, none⟩ = some (.map (some m)) := (H.at'.cell 8).trans rfl
  have HH := Lib.hid H
  have HX := Lib.hid hx
  have e1 : s.intern x = ((s.names.idxOf x : Int), s) := by unfold Sc.intern; rw [if_pos hm]
  have HHas := Lib.hid (show Maps.has (idsD s.names) (.string x) = true by rw [ids_has]; exact decide_eq_true hm)
  have HAt := Lib.hid (ids_at (y := x) (.lit (.int .i64 0)) H.ok.nd hm)
  rw [e1]
  clear H e1 hm hx
  obtain ⟨nx, hnx⟩ : ∃ nx, nx = nameV x := ⟨_, rfl⟩
  have HN := Lib.hid hnx
  rw [← hnx]
  clear hnx
  go_enter Try.func42, Try.ntmps42
  go_wp2_with (refine wpList_lookup_own_ok_int _ rfl (.tmp 11) (.tmp 12) 50 rfl 9 3 .i64 skeyed Try.underlying50 Try.underlying3 (zero_int _) m _ _ rfl HH.out.ids nx _ rfl (HN.out ▸ skeyOf HX.out) ?_; rw [HHas.out]; intro cv hat hwf; obtain rfl := lit64_inv (HAt.out.symm.trans hat); clear hat hwf)
  go_ret
  exact ⟨rfl, ⟨n, HH.out⟩, Ke.refl _ _⟩

set_option maxRecDepth 20000 in
set_option maxHeartbeats 4000000 in
theorem intern_full (H : ScnX F w g s a c n m) (x : List UInt8) (hx : x.length ≤ 100000) (hm : x ∉ s.names) (hl : 700 ≤ s.names.length) :
    Calls Try.prog 42 #[.pointer (some ⟨g, 0, none⟩), nameV x] w (InternIs F w g (s.intern x) a c m) := by
  have c8 : w.cell? ⟨g, 8, none⟩ = some (.map (some m)) := (H.at'.cell 8).trans rfl
  obtain ⟨p, d, rfl, hr⟩ := H.names
  have c7 : w.cell? ⟨g, 7, none⟩ = some (.slice p s.names.length d) := (H.at'.cell 7).trans rfl
  have HH := Lib.hid H
  have HX := Lib.hid hx
  have e1 : s.intern x = (-1, s.mark 62) := by unfold Sc.intern; rw [if_neg hm, if_pos hl]
  have HHas := Lib.hid (show Maps.has (idsD s.names) (.string x) = false by rw [ids_has]; exact decide_eq_false hm)
  have i1 : (700 : Int) ≤ s.names.length := by omega
  have i2 : (s.names.length : Int) ≤ 700 := by have := H.ok.nm; omega
  rw [e1]
  clear H e1 hm hx hr
  obtain ⟨nx, hnx⟩ : ∃ nx, nx = nameV x := ⟨_, rfl⟩
  have HN := Lib.hid hnx
  rw [← hnx]
  clear hnx
  go_enter Try.func42, Try.ntmps42
  go_wp2_with (first | (refine wpList_lookup_own_ok_int _ rfl (.tmp 11) (.tmp 12) 50 rfl 9 3 .i64 skeyed Try.underlying50 Try.underlying3 (zero_int _) m _ _ rfl HH.out.ids nx _ rfl (HN.out ▸ skeyOf HX.out) ?_; rw [HHas.out]; intro cv hat hwf; clear hat hwf) | (refine (mark_walk HH.out 62).mono ?_; rintro e w1 ⟨rfl, h1, h2, h3⟩; have HX1 := Lib.hid h1; have HK1 := Lib.hid h2; clear h1 h2 h3))
  go_ret
  exact ⟨rfl, ⟨_, HX1.out⟩, HH.out.off HK1.out⟩

/-- the scanner's blocks, one by one. -/
structure Bits (w : World) (g : Nat) (cs : Array Value) (A : Value) (l : List Int) (n : Value) (ns : List Value) (m k : Nat) (D : DataW Unit) : Prop where
  at' : At w g cs 52
  src : w.ownsRow 0 5 1 A l.length (l.map (Value.int .u8))
  nms : w.ownsRow 0 9 1 n ns.length ns
  ids : w.ownsMap Try.prog 9 (plainElem Try.prog 3) m k D
theorem Bits.bel {cs : Array Value} {A : Value} {l : List Int} {ns : List Value} {k : Nat} {D : DataW Unit} (h : Bits w g cs A l n ns m k D) (q : Below w.heap.size w w') : Bits w' g cs A l n ns m k D :=
  ⟨h.at'.bel q, ownsRow_ke h.src (Ke.below Non q) (fun _ _ h => h), ownsRow_ke h.nms (Ke.below Non q) (fun _ _ h => h), ownsMap_ke h.ids (Ke.below Non q) (fun h => h)⟩
theorem Bits.map {cs : Array Value} {A : Value} {l : List Int} {ns : List Value} {k k' : Nat} {D D' : DataW Unit} (h : Bits w g cs A l n ns m k D) (q : w.grownBy w' (some m)) (hm : w'.ownsMap Try.prog 9 (plainElem Try.prog 3) m k' D') : Bits w' g cs A l n ns m k' D' :=
  have q' : Ke (fun i => some m = some i) w w' := Ke.grown q
  ⟨h.at'.ke q' (fun e => ownsMap_at h.ids h.at' (Option.some.inj e)), ownsRow_ke h.src q' (fun b hb e => ownsRow_map h.ids h.src (hb.trans e.symm)), ownsRow_ke h.nms q' (fun b hb e => ownsRow_map h.ids h.nms (hb.trans e.symm)), hm⟩
theorem Bits.row {cs : Array Value} {A : Value} {l : List Int} {ns ns' : List Value} {n' : Value} {k : Nat} {D : DataW Unit} (h : Bits w g cs A l n ns m k D) (q : w.grownBy w' n.ownBlock) (hn : w'.ownsRow 0 9 1 n' ns'.length ns') : Bits w' g cs A l n' ns' m k D :=
  have q' : Ke (fun i => n.ownBlock = some i) w w' := Ke.grown q
  ⟨h.at'.ke q' (fun e => ownsRow_type h.nms h.at' (by decide) e), ownsRow_ke h.src q' (fun b hb e => ownsRow_apart h.nms h.src (by decide) b e hb), hn, ownsMap_ke h.ids q' (fun e => ownsRow_map h.ids h.nms e)⟩
theorem Bits.put {cs cs' : Array Value} {A : Value} {l : List Int} {ns : List Value} {k : Nat} {D : DataW Unit} (h : Bits w g cs A l n ns m k D) (q : Ke (· = g) w w') (ha : At w' g cs' 52) : Bits w' g cs' A l n ns m k D :=
  ⟨ha, ownsRow_ke h.src q (fun b hb e => by subst e; exact ownsRow_type h.src h.at' (by decide) hb), ownsRow_ke h.nms q (fun b hb e => by subst e; exact ownsRow_type h.nms h.at' (by decide) hb), ownsMap_ke h.ids q (ownsMap_at h.ids h.at')⟩
theorem ScnX.bits (H : ScnX F w g s a c n m) : Bits w g (s.cells (.slice a s.src.length c) n (.map (some m))) (.slice a s.src.length c) s.src n (s.names.map nameV) m s.names.length (idsD s.names) :=
  ⟨H.at', H.src, by rw [List.length_map]; exact H.nms, H.ids⟩

set_option maxRecDepth 20000 in
set_option maxHeartbeats 4000000 in
theorem intern_new (H : ScnX F w g s a c n m) (x : List UInt8) (hx : x.length ≤ 100000) (hm : x ∉ s.names) (hl : s.names.length < 700) (hF : ∀ k, F k → k < w.heap.size) :
    Calls Try.prog 42 #[.pointer (some ⟨g, 0, none⟩), nameV x] w (InternIs F w g (s.intern x) a c m) := by
  have c8 : w.cell? ⟨g, 8, none⟩ = some (.map (some m)) := (H.at'.cell 8).trans rfl
  obtain ⟨p, d, rfl, hr⟩ := H.names
  have c7 : w.cell? ⟨g, 7, none⟩ = some (.slice p s.names.length d) := (H.at'.cell 7).trans rfl
  have HH := Lib.hid H
  have HX := Lib.hid hx
  have e1 : s.intern x = ((s.names.length : Int), { s with names := s.names ++ [x] }) := by unfold Sc.intern; rw [if_neg hm, if_neg (by omega)]
  have HHas := Lib.hid (show Maps.has (idsD s.names) (.string x) = false by rw [ids_has]; exact decide_eq_false hm)
  have i1 : (s.names.length : Int) < 700 := by omega
  have i2 : (0 : Int) ≤ s.names.length := by omega
  have HM := Lib.hid hm
  have HL := Lib.hid hl
  have nm8 : ¬ (g = m) := fun e => ownsMap_at H.ids H.at' e.symm
  have HB := Lib.hid H.bits
  rw [e1]
  clear H e1 hm hx hr hl
  obtain ⟨xb, hnx⟩ : ∃ xb : ByteArray, nameV x = .string xb := ⟨_, rfl⟩
  have HN := Lib.hid hnx
  rw [hnx]
  clear hnx
  go_enter Try.func42, Try.ntmps42
  go_wp2_with (refine wpList_lookup_own_ok_int _ rfl (.tmp 11) (.tmp 12) 50 rfl 9 3 .i64 skeyed Try.underlying50 Try.underlying3 (zero_int _) m _ _ rfl HH.out.ids (.string xb) _ rfl (HN.out ▸ skeyOf HX.out) ?_; rw [HHas.out]; intro cv hat hwf; clear hat hwf)
  refine wp_region_mixK (· = m) [([0, 1, 2, 3, 4, 5, 6, 7, 8, 9], 10)] [] (by kernel_rfl) (by kernel_rfl) (fun _ _ d _ _ h => by cases d <;> exact h) ?_
  intro wd hb
  have hB1 := HB.out.bel hb
  have HB1 := Lib.hid hB1
  have HK1 : Hid (Ke (Off F) w wd) := Lib.hid (Ke.below _ hb)
  have l8 := hB1.at'.laterCell (G := (· = m)) nm8 8 (v := .map (some m)) rfl
  have l7 := hB1.at'.laterCell (G := (· = m)) nm8 7 (v := .slice p s.names.length d) rfl
  clear hB1 hb c7 c8
  refine mixK_step ?_
  simp only [pickOps, nth]
  (repeat (go_big_quiet_step (fail)))
  refine wpQuiet_nil ?_
  clear l8 l7
  refine wpList_mapUpdate_own _ rfl (.tmp 29) (.tmp 30) (.tmp 35) 50 rfl 9 3 skeyed Try.underlying50 _ m _ _ rfl HB1.out.ids (by have := HL.out; unfold maxLen; omega) (.string xb) _ (.string x) rfl rfl (HN.out ▸ skeyOf HX.out) (lit64 s.names.length) [] (plainElem_int Try.underlying3 (nat_wf (by have := HL.out; omega))) ?_
  intro w2 hm2 hg2
  have hB2 := HB1.out.map hg2 hm2
  have HB2 := Lib.hid hB2
  have HG2 : Hid (Ke (· = m) wd w2) := Lib.hid ((Ke.grown hg2).mono (fun i _ e => (Option.some.inj e).symm))
  have HK2 : Hid (Ke (Off F) w w2) := Lib.hid (HK1.out.trans (HG2.out.mono (fun i _ e => by subst e; exact HH.out.fm)))
  have c7 : w2.cell? ⟨g, 7, none⟩ = some (.slice p s.names.length d) := (hB2.at'.cell 7).trans rfl
  clear hm2 hg2 hB2
  go_wp2_with fail
  refine ⟨HG2.out, mixK_end ?_⟩
  simp only [pickOps, nth]
  refine wpQuiet_nil ?_
  have fA : True := trivial
  have fB : True := trivial
  have HO : Hid ((w2.alloc (.cells #[.string xb] 9)).ownsRow 0 9 1 (.slice p s.names.length d) s.names.length (s.names.map nameV)) := Lib.hid (by have := (HB2.out.bel (bel1 w2 (.cells #[.string xb] 9))).nms; rwa [List.length_map] at this)
  have HRd := Lib.hid (rd_at (At.new w2 #[.string xb] 9) (show 1 ≤ maxLen by unfold maxLen; omega))
  have hle1 := Lib.hid (show (s.names.length + 1) * 16 ≤ 140737488355328 by have := HL.out; omega)
  have hle2 := Lib.hid (show s.names.length + 1 ≤ 140737488355328 by have := HL.out; omega)
  have hone := Lib.hid (show ∀ u ∈ (#[.string xb] : Array Value).toList, u.oneCell' = true by intro u hu; simp at hu; subst hu; rfl)
  go_wp2_with (first | (have _f := fA; at_builtin; refine append_at rfl (.tmp 40) (.tmp 42) et_str rfl 0 rfl HO.out rfl HRd.out rfl hone.out hle1.out hle2.out (Nat.zero_le _) ?_; intro v4 w4 own4 gr4 at4; obtain ⟨a4, c4, rfl, rd4⟩ := RdC.own own4; have HO4 := Lib.hid own4; have HG4 := Lib.hid gr4; have HAt4 := Lib.hid at4; clear own4 gr4 rd4 at4 _f fA) | (have _f := fB; refine store1_sep rfl 40 (.tmp 45) (.tmp 43) rfl (Sep.one ((HB2.out.bel (bel1 w2 (.cells #[.string xb] 9))).row HG4.out (by rw [show (s.names.map nameV ++ (#[.string xb] : Array Value).toList).length = s.names.length + 1 by simp]; exact HO4.out)).at') 0 rfl rfl rfl rfl (by kernel_rfl) rfl ?_; intro w5 S5 k5 s5; have HA5 := Lib.hid (S5.at 0 rfl); have HK5 := Lib.hid k5; have c7' : w5.cell? ⟨g, 7, none⟩ = some (.slice a4 (s.names.length + 1) c4) := ((S5.at 0 rfl).cell 7).trans rfl; clear S5 k5 s5 _f fB c7))
  go_ret
  have hb4 := (HB2.out.bel (bel1 w2 (.cells #[.string xb] 9))).row (ns' := s.names.map nameV ++ (#[.string xb] : Array Value).toList) HG4.out (by rw [show (s.names.map nameV ++ (#[.string xb] : Array Value).toList).length = s.names.length + 1 by simp]; exact HO4.out)
  have hb5 := hb4.put HK5.out HA5.out
  have e5 : s.names.map nameV ++ (#[.string xb] : Array Value).toList = (s.names ++ [x]).map nameV := by rw [List.map_append, List.map_cons, HN.out]; rfl
  have hsz := HK2.out.size
  have hk4 : Ke (Off F) (w2.alloc (.cells #[.string xb] 9)) w4 := (Ke.grown HG4.out).mono (fun i _ e => HH.out.fn i e)
  refine ⟨rfl, ⟨.slice a4 (s.names.length + 1) c4, ⟨hb5.at', hb5.src, ?_, ?_, HH.out.fg, HH.out.fm, ?_, HH.out.fa, ?_⟩⟩, HK2.out.trans ((Ke.below _ (bel1 _ _)).trans (hk4.trans (HK5.out.mono (fun i _ e => by subst e; exact HH.out.fg))))⟩
  · have := hb5.nms
    rw [e5, List.length_map] at this
    exact this
  · have := hb5.ids
    rw [← idsD_snoc] at this
    exact this.mono (by simp)
  · intro b hb hFb
    rcases HAt4.out with h | h
    · exact HH.out.fn b (h ▸ hb) hFb
    · have h1 := hF b hFb
      rw [h] at hb
      have h2 : (w2.alloc (.cells #[.string xb] 9)).heap.size = b := Option.some.inj hb
      simp at h2
      omega
  · have ok := HH.out.ok
    have hl := HL.out
    refine ⟨ok.le, ok.len, ok.bd, by simp; omega, ?_, ?_⟩
    · exact List.nodup_append.2 ⟨ok.nd, by simp, fun y hy z hz => by simp at hz; subst hz; intro e; subst e; exact HM.out hy⟩
    · intro y hy
      rcases List.mem_append.1 hy with h | h
      · exact ok.nl y h
      · simp at h; subst h; exact HX.out

theorem intern_walk (H : ScnX F w g s a c n m) (x : List UInt8) (hx : x.length ≤ 100000) (hF : ∀ k, F k → k < w.heap.size) :
    Calls Try.prog 42 #[.pointer (some ⟨g, 0, none⟩), nameV x] w (InternIs F w g (s.intern x) a c m) := by
  by_cases hm : x ∈ s.names
  · exact intern_old H x hx hm
  · by_cases hl : 700 ≤ s.names.length
    · exact intern_full H x hx hm hl
    · exact intern_new H x hx hm (by omega) hF

end Go.Proofs.Ytdgiijidgjagbaa
