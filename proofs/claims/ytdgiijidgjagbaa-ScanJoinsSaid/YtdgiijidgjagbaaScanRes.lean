/- What the laws are told of the reference's result, and of a scanner beside it. -/
import Derived.Test.YtdgiijidgjagbaaRefScan0
import Derived.Test.YtdgiijidgjagbaaScanMarks
import Derived.Laws.StructEq
namespace Go.Proofs.Ytdgiijidgjagbaa
set_option linter.unusedVariables false
set_option linter.unusedSimpArgs false
open Go.RowKit

theorem sym_same (v p u i : Int) (t : ByteArray) (w : World) : (binOp .neq 30 (.agg #[.int .i64 v, .int .i64 p, .int .i32 u, .int .i64 i, .string t]) (.agg #[.int .i64 v, .int .i64 p, .int .i32 u, .int .i64 i, .string t])).run Try.prog w = .ok (.bool false) w := by
  have hf : Try.prog.underlying 30 = some (.struct (Try.prog.fieldsOf 30)) := by kernel_rfl
  have p0 : ∀ w, (part 3 #[.int .i64 v, .int .i64 p, .int .i32 u, .int .i64 i, .string t] 0).run Try.prog w = .ok (.int .i64 v) w := fun w => by kernel_rfl
  have p1 : ∀ w, (part 3 #[.int .i64 v, .int .i64 p, .int .i32 u, .int .i64 i, .string t] 1).run Try.prog w = .ok (.int .i64 p) w := fun w => by kernel_rfl
  have p2 : ∀ w, (part 21 #[.int .i64 v, .int .i64 p, .int .i32 u, .int .i64 i, .string t] 2).run Try.prog w = .ok (.int .i32 u) w := fun w => by kernel_rfl
  have p3 : ∀ w, (part 3 #[.int .i64 v, .int .i64 p, .int .i32 u, .int .i64 i, .string t] 3).run Try.prog w = .ok (.int .i64 i) w := fun w => by kernel_rfl
  have p4 : ∀ w, (part 9 #[.int .i64 v, .int .i64 p, .int .i32 u, .int .i64 i, .string t] 4).run Try.prog w = .ok (.string t) w := fun w => by kernel_rfl
  rw [run_neq_struct, run_equalIn_struct w 9999 _ _ _ hf (by kernel_rfl)]
  simp [Program.fieldsOf, Try.underlying30, Op.eqFields, Sem.run_bind, p0, p1, p2, p3, p4, run_equalIn_int _ 9998 _ _ _ _ _ Try.underlying3, run_equalIn_int _ 9998 _ _ _ _ _ Try.underlying21, run_equalIn_string _ 9998 _ _ _ Try.underlying9, Result.andThen_ok]

/-- how a reference's result lies to the scanner. -/
def ResIs (S : List Int) (m : Nat) (E P : Int) (nms : List (List UInt8)) : Prop :=
  (E = 0 ∧ P = 0 ∧ ∃ k, m = k + 1 ∧ Syms S k ∧ nms = (gets (newS S) k).names) ∨ (E ≠ 0 ∧ (∀ j, j < m → (gets (newS S) j).sym.sym ≠ 0) ∧ (gets (newS S) m).err = E ∧ (gets (newS S) m).pos = P ∧ nms = (gets (newS S) m).names)

theorem fine_of_ne {S : List Int} {m : Nat} (h : ∀ j, j < m → (gets (newS S) j).sym.sym ≠ 0) : ∀ i, i ≤ m → Fine S (gets (Sc.fresh S) i)
  | 0, _ => fine_fresh S
  | i + 1, hi => by
    have h1 := h i (by omega)
    have h2 := new_err h1
    rw [gets_new] at h1 h2
    exact (fine_next (fine_of_ne h i (by omega)) h2 h1).1

theorem res_facts {S : List Int} {m : Nat} {E P : Int} {nms : List (List UInt8)} (h : ResIs S m E P nms) :
    (∀ j, j < m → (gets (newS S) j).err = 0 ∧ (gets (newS S) j).pos = 0) ∧ (gets (newS S) m).err = E ∧ (gets (newS S) m).pos = P ∧ (∃ X, (gets (newS S) m).sym = Sym.at X ∧ (E ≠ 0 → X = P)) ∧ (gets (newS S) m).get = gets (newS S) m ∧ (gets (newS S) m).names = nms := by
  rcases h with ⟨rfl, rfl, k, rfl, hs, hn⟩ | ⟨h0, hne, hE, hP, hn⟩
  · have hl := hs.last.2
    have hnx : gets (newS S) (k + 1) = stand S S.length (gets (Sc.fresh S) k).names := by
      show (gets (newS S) k).get = _
      rw [hl]
      have := get_read (s := stand S S.length (gets (Sc.fresh S) k).names) rfl rfl (blank_end (Nat.le_refl S.length))
      rw [this]
      exact read_end S _
    refine ⟨fun j hj => ?_, by rw [hnx]; rfl, by rw [hnx]; rfl, ⟨S.length, by rw [hnx]; rfl, fun h => (h rfl).elim⟩, ?_, by rw [hnx, hn, hl]⟩
    · rcases Nat.lt_or_ge j k with h | h
      · have hf := hs.fine (j + 1) (by omega)
        rw [← gets_new] at hf
        exact ⟨hf.err, hf.pos⟩
      · obtain rfl : j = k := by omega
        rw [hl]; exact ⟨rfl, rfl⟩
    · rw [hnx]
      have := get_read (s := stand S S.length (gets (Sc.fresh S) k).names) rfl rfl (blank_end (Nat.le_refl S.length))
      rw [this]
      exact read_end S _
  · have he : (gets (newS S) m).err ≠ 0 := by rw [hE]; exact h0
    refine ⟨fun j hj => ?_, hE, hP, ⟨P, ?_, fun _ => rfl⟩, get_err he, hn.symm⟩
    · have hf := fine_of_ne hne (j + 1) hj
      rw [← gets_new] at hf
      exact ⟨hf.err, hf.pos⟩
    · rw [gets_inv (newS_inv S) m he, hP]

/-- the j-th symbol in a row of symbols. -/
theorem symsC_at (f : Nat → Sym) (m j : Nat) (hj : j < m) (q : Nat) (hq : q < 5) : (symsC ((List.range m).map f))[j * 5 + q]? = (symC (f j))[q]? := by
  induction m with
  | zero => omega
  | succ m ih =>
    rw [range_snoc, symsC_snoc]
    have hl : (symsC ((List.range m).map f)).length = m * 5 := by rw [symsC_len, List.length_map, List.length_range]
    rcases Nat.lt_or_ge j m with h | h
    · rw [List.getElem?_append_left (by omega)]
      exact ih h
    · obtain rfl : j = m := by omega
      rw [List.getElem?_append_right (by omega), hl]
      congr 1; omega

/-- an own row's cells, in every world that keeps its block. -/
theorem row_cells {w : World} {base n size : Nat} {e : TypeId} {a : Option Addr} {c : Nat} {xs : List Value} (h : w.ownsRow base e size (.slice a n c) n xs) (h0 : 0 < xs.length) : ∃ b, a = some ⟨b, 0, none⟩ ∧ base ≤ b ∧ b < w.heap.size ∧ ∀ j u, xs[j]? = some u → w.cell? ⟨b, j, none⟩ = some u := by
  obtain ⟨p, d, he, hr⟩ := RdC.own h
  simp only [Value.slice.injEq] at he
  obtain ⟨rfl, _, rfl⟩ := he
  obtain ⟨h1, h2⟩ := h
  rcases h2 with ⟨_, rfl⟩ | ⟨g, cap, cur, he, hb, hg, hle, hm, hy, hz⟩
  · have : xs.length = 0 := by simpa using h1
    omega
  · simp only [Value.slice.injEq] at he
    obtain ⟨rfl, _, rfl⟩ := he
    refine ⟨g, rfl, hb, (Array.getElem?_eq_some_iff.1 hg).1, fun j u hj => ?_⟩
    rw [(show At w g cur e from hg).cell]
    rw [← hz, List.getElem?_take] at hj
    split at hj
    · simpa using hj
    · cases hj

theorem bel_off2 {w w1 w2 : World} {F : Nat → Prop} (h : Below w.heap.size w w1) (k : Ke (Off F) w1 w2) (hF : ∀ i, i < w.heap.size → F i) : Below w.heap.size w w2 :=
  off_bel h (k.mono (fun i _ e hi => e (hF i hi)))
theorem names_is2 {F : Nat → Prop} {w : World} {g : Nat} {s : Sc} (H : Scn F w g s) (k : Nat) (hk : s.names.length = k) : Calls Try.prog 20 #[.pointer (some ⟨g, 0, none⟩)] w fun e w' => e = .returned (.int .i64 k) ∧ w = w' := by
  subst hk
  obtain ⟨a, c, n, m, h⟩ := H
  exact names_walk h

/-- an own row as its block. -/
theorem row_at {w : World} {base n size : Nat} {e : TypeId} {a : Option Addr} {c : Nat} {xs : List Value} (h : w.ownsRow base e size (.slice a n c) n xs) (h0 : 0 < xs.length) : ∃ b cur, a = some ⟨b, 0, none⟩ ∧ base ≤ b ∧ At w b cur e ∧ ∀ (j : Nat) (u : Value), xs[j]? = some u → cur[j]? = some u := by
  obtain ⟨h1, h2⟩ := h
  rcases h2 with ⟨_, rfl⟩ | ⟨g, cap, cur, he, hb, hg, hle, hm, hy, hz⟩
  · have : xs.length = 0 := by simpa using h1
    omega
  · simp only [Value.slice.injEq] at he
    obtain ⟨rfl, _, rfl⟩ := he
    refine ⟨g, cur, rfl, hb, hg, fun j u hj => ?_⟩
    rw [← hz, List.getElem?_take] at hj
    split at hj
    · simpa using hj
    · cases hj
/-- a struct's load, wherever it lies, in a quiet walk. -/
theorem quiet_load {P : Program} {R : World → Prop} {K : Act → Prop} {a : Act} {o : Oper} (ty : TypeId) (x : Operand) (ho : o.op = .load ty x) {p : Addr} {v : Value} (hx : a.eval x = .pointer (some p))
    (hl : ∀ y : Later R, (Instr.loadAt ty (.pointer (some p))).run P y.w = .ok v y.w) (hk : K (a.put o.dst v)) : o.quiet P a (fun w' => ∃ y : Later R, w' = y.w) K :=
  ⟨_, fun w hw => by
    obtain ⟨y, rfl⟩ := hw
    unfold Oper.quietAt execOp
    simp only [ho, hx, Sem.run_bind, hl y, Result.andThen_ok]
    exact ⟨rfl, rfl⟩, hk⟩
theorem load_mid {w : World} {b o : Nat} {cs : List Value} {ty : TypeId} {d : TypeDesc} (hc : ∀ (j : Nat) (v : Value), cs[j]? = some v → w.cell? ⟨b, o + j, none⟩ = some v) (hu : Try.prog.underlying ty = some d) (hd : d.isRow = true) (hi : (Try.prog.info? ty).map (·.size) = some cs.length) :
    (Instr.loadAt ty (.pointer (some ⟨b, o, none⟩))).run Try.prog w = .ok (.agg cs.toArray) w := by
  simp only [Instr.loadAt, Instr.sureAddr, Sem.run_bind, Sem.run_pure, Result.andThen_ok, run_loadVar_mid (P := Try.prog) w b o ty cs d hc hu hd hi]

theorem strv {w W : World} {a : Option Addr} {c : Nat} {l : List Int} {xb : ByteArray} (h : RdI .u8 w a c l) (hx : strOf l = xb) (hb : Below w.heap.size w W) : (convert 23 9 (.slice a l.length c)).run Try.prog W = .ok (.string xb) W := by
  have := run_str_of (P := Try.prog) (dst := 9) (h.below hb (Nat.le_refl _)) Try.underlying23 Try.underlying5 Try.underlying9
  rw [hx] at this
  exact this

theorem own_sep {w1 w5 : World} {ob r : Nat} {cur cs : Array Value} {t t' : TypeId} (hs : Sep w5 [(r, cs, t)]) (ha : At w1 ob cur t') (hb : Below w1.heap.size w1 w5) (hr : w1.heap.size ≤ r) : Sep w5 [(ob, cur, t'), (r, cs, t)] :=
  hs.cons (ha.bel hb) (fun e he => by
    rw [List.mem_singleton] at he
    subst he
    have := ha.lt
    show ob ≠ r
    omega)

theorem own_le {w : World} {base n size : Nat} {e : TypeId} {a : Option Addr} {c : Nat} {xs : List Value} (h : w.ownsRow base e size (.slice a n c) n xs) : n ≤ 9223372036854775807 := by
  obtain ⟨_, h2⟩ := h
  rcases h2 with ⟨he, _⟩ | ⟨g, cap, cur, he, hb, hg, hle, hm, hy, hz⟩
  · simp only [Value.slice.injEq] at he; omega
  · unfold maxLen at hm; omega

end Go.Proofs.Ytdgiijidgjagbaa
