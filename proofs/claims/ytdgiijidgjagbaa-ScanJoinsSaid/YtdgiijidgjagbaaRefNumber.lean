/- Contract: the reference's Number. Printed by bin/gen_refnumber.py. -/
import Derived.Test.YtdgiijidgjagbaaRefBlank
import Derived.Test.YtdgiijidgjagbaaScanNum
import Derived.Outline
namespace Go.Proofs.Ytdgiijidgjagbaa
set_option linter.unusedVariables false
set_option linter.unusedSimpArgs false
open Go.RowKit

theorem results_tmp4 {fn : Func} {t u v x : Tmp} (h : fn.results = #[.tmp t, .tmp u, .tmp v, .tmp x]) (tmps : Array Value) (P : Program) (w : World) :
    (results fn tmps).run P w = .ok (.tuple #[tmps.getD t undef, tmps.getD u undef, tmps.getD v undef, tmps.getD x undef]) w := by
  simp [results, h]
/-- a number that begins at i: its symbol, its value, where it ends, may it be? -/
structure NumIs (l : List Int) (i : Nat) (w : World) (e : Ending) (w' : World) : Prop where
  out : ∃ (v : Int) (ok : Bool), e = .returned (.tuple #[.int .i64 (if l.getD (run hexB l i) 0 = 88 then 27 else 26), .int .i32 v, .int .i64 (if l.getD (run hexB l i) 0 = 72 ∨ l.getD (run hexB l i) 0 = 88 then (run hexB l i : Int) + 1 else (run hexB l i : Int)), .bool ok]) ∧
    (ok = if l.getD (run hexB l i) 0 = 72 ∨ l.getD (run hexB l i) 0 = 88 then !(decide (8 < sig (cut l i (run hexB l i))) || (decide (l.getD (run hexB l i) 0 = 88) && decide (255 < hexN (cut l i (run hexB l i))))) else !(decide ((cut l i (run hexB l i)).all digitB = false) || decide (2147483647 < decN (cut l i (run hexB l i))))) ∧
    (ok = true → v = if l.getD (run hexB l i) 0 = 72 ∨ l.getD (run hexB l i) 0 = 88 then i32 (hexN (cut l i (run hexB l i))) else decN (cut l i (run hexB l i))) ∧ Below w.heap.size w w'
theorem cut_next {l : List Int} {i k : Nat} {v : Int} (hi : i ≤ k) (hk : k < l.length) (hv : l.getD k 0 = v) : cut l i (k + 1) = cut l i k ++ [v] := by rw [cut_snoc l i k hi hk, hv]

theorem hexB_no {v : Int} (h : hexB v = false) : digitB v = false ∧ (v < 65 ∨ (70 < v ∧ v ≠ 72 ∧ v ≠ 88) ∨ v = 72 ∨ v = 88) := by
  unfold hexB at h
  simp only [Bool.or_eq_false_iff, Bool.and_eq_false_iff, decide_eq_false_iff_not] at h
  exact ⟨h.1, by omega⟩
theorem decF_ge {n v : Int} (hn : n ≤ 4294967296) (h0 : 0 ≤ n) (hv : 48 ≤ v) : n ≤ decF n v := by unfold decF; omega
theorem cut_mem {l : List Int} {i k j : Nat} (hk : k ≤ l.length) (h1 : i ≤ j) (h2 : j < k) : l.getD j 0 ∈ cut l i k := by
  have h := cut_get l i k (j - i) hk (by omega)
  rw [show i + (j - i) = j by omega] at h
  rw [← h]; exact getD_mem (by rw [cut_len l i k hk]; omega)
theorem digB_bd {v : Int} (h : digitB v = true) : 48 ≤ v ∧ v ≤ 57 := by unfold digitB at h; simpa using h
theorem decN_mono {l : List Int} {i j k : Nat} (h : (cut l i k).all digitB = true) (hij : i ≤ j) (hjk : j ≤ k) (hk : k ≤ l.length) : decN (cut l i j) ≤ decN (cut l i k) := by
  obtain ⟨m, rfl⟩ : ∃ m, k = j + m := ⟨k - j, by omega⟩
  have hall : ∀ x, i ≤ x → x < j + m → 48 ≤ l.getD x 0 := fun x h1 h2 => (digB_bd (List.all_eq_true.1 h _ (cut_mem hk h1 h2))).1
  clear h
  induction m with
  | zero => exact Int.le_refl _
  | succ m ih =>
    have h1 := ih (by omega) (by omega) (fun x a b => hall x a (by omega))
    rw [show j + (m + 1) = (j + m) + 1 by omega, cut_snoc l i (j + m) (by omega) (by omega), decN_snoc]
    have h2 := decN_bd (cut l i (j + m)) (fun x hx => by
      obtain ⟨q, hq, rfl⟩ := List.getElem_of_mem hx
      rw [cut_len l i (j + m) (by omega)] at hq
      have := cut_get l i (j + m) q (by omega) hq
      rw [List.getD_eq_getElem?_getD, List.getElem?_eq_getElem (by rw [cut_len l i (j + m) (by omega)]; exact hq)] at this
      simp only [Option.getD_some] at this
      rw [this]; exact hall _ (by omega) (by omega))
    exact Int.le_trans h1 (decF_ge h2.2 h2.1 (hall _ (by omega) (by omega)))
theorem sigF_pos (G : Nat) {v : Int} : ((0 < G ∨ 0 < digV v) → sigF G v = G + 1) ∧ (¬ (0 < G ∨ 0 < digV v) → sigF G v = G) := ⟨fun h => if_pos h, fun h => if_neg h⟩
theorem num_dec_no {l : List Int} {i k : Nat} {w wq : World} {v x : Int} {D : Bool} (hk : run hexB l i = k) (hv : l.getD k 0 = v) (hc : v ≠ 72 ∧ v ≠ 88) (hD : (cut l i k).all digitB = D) (hn : (cut l i k).all digitB = true → 2147483647 < decN (cut l i k)) (hw : Below w.heap.size w wq) :
    NumIs l i w (.returned (.tuple #[.int .i64 26, .int .i32 x, .int .i64 k, .bool false])) wq := by
  subst hk; subst hv
  refine ⟨x, false, ?_, ?_, fun h => (by cases h), hw⟩
  · rw [if_neg hc.2, if_neg (not_or.2 hc)]
  · rw [if_neg (not_or.2 hc)]
    cases D
    · rw [hD]; rfl
    · rw [hD, decide_eq_true (hn hD)]; rfl
theorem num_dec_ok {l : List Int} {i k : Nat} {w wq : World} {v n : Int} (hk : run hexB l i = k) (hv : l.getD k 0 = v) (hc : v ≠ 72 ∧ v ≠ 88) (hD : (cut l i k).all digitB = true) (hn : decN (cut l i k) = min n 4294967296) (h1 : n < 2147483648) (h0 : 0 ≤ n) (hw : Below w.heap.size w wq) :
    NumIs l i w (.returned (.tuple #[.int .i64 26, .int .i32 n, .int .i64 k, .bool true])) wq := by
  subst hk; subst hv
  have e : decN (cut l i (run hexB l i)) = n := by omega
  refine ⟨n, true, ?_, ?_, fun _ => ?_, hw⟩
  · rw [if_neg hc.2, if_neg (not_or.2 hc)]
  · rw [if_neg (not_or.2 hc), hD, e, decide_eq_false (show ¬ (2147483647 : Int) < n by omega)]; rfl
  · rw [if_neg (not_or.2 hc), e]

theorem num_hex72 {l : List Int} {i k : Nat} {w wq : World} {N v : Int} {G : Nat} {ok : Bool} (hk : run hexB l i = k) (hv : l.getD k 0 = 72) (hN : hexN (cut l i k) = N) (hG : sig (cut l i k) = G) (e1 : v = i32 N) (e2 : ok = decide (G ≤ 8)) (_ : True) (hw : Below w.heap.size w wq) :
    NumIs l i w (.returned (.tuple #[.int .i64 26, .int .i32 v, .int .i64 (k + 1), .bool ok])) wq := by
  subst hk
  refine ⟨v, ok, ?_, ?_, fun _ => ?_, hw⟩
  · rw [hv]; rfl
  · rw [hv, if_pos (.inl rfl), hG, e2]
    by_cases h : G ≤ 8
    · rw [decide_eq_true h, decide_eq_false (by omega : ¬ 8 < G)]; rfl
    · rw [decide_eq_false h, decide_eq_true (by omega : 8 < G)]; rfl
  · rw [hv, if_pos (.inl rfl), hN, e1]
theorem num_hex88 {l : List Int} {i k : Nat} {w wq : World} {N v : Int} {G : Nat} {ok : Bool} (hk : run hexB l i = k) (hv : l.getD k 0 = 88) (hN : hexN (cut l i k) = N) (hG : sig (cut l i k) = G) (e1 : v = i32 N) (e2 : ok = (decide (G ≤ 8) && decide (N ≤ 255))) (_ : True) (hw : Below w.heap.size w wq) :
    NumIs l i w (.returned (.tuple #[.int .i64 27, .int .i32 v, .int .i64 (k + 1), .bool ok])) wq := by
  subst hk
  refine ⟨v, ok, ?_, ?_, fun _ => ?_, hw⟩
  · rw [hv]; rfl
  · rw [hv, if_pos (.inr rfl), hG, hN, e2]
    by_cases h : G ≤ 8
    · rw [decide_eq_true h, decide_eq_false (by omega : ¬ 8 < G)]
      by_cases h2 : N ≤ 255
      · rw [decide_eq_true h2, decide_eq_false (by omega : ¬ 255 < N)]; rfl
      · rw [decide_eq_false h2, decide_eq_true (by omega : 255 < N)]; rfl
    · rw [decide_eq_false h, decide_eq_true (by omega : 8 < G)]; rfl
  · rw [hv, if_pos (.inr rfl), hN, e1]

set_option maxRecDepth 20000 in
set_option maxHeartbeats 16000000 in
theorem number_ref {w : World} {a : Option Addr} {c : Nat} {l : List Int} (h : RdI .u8 w a c l) (hl : l.length ≤ 65535) (i : Nat) (hi : i ≤ l.length) :
    Calls Try.prog 40 #[.slice a l.length c, .int .i64 i] w (NumIs l i w) := by
  have HR := Lib.hid (fun (w' : World) (k : Below w.heap.size w w') => h.below k (Nat.le_refl _))
  have HL := Lib.hid hl
  have HC := Lib.hid (rd_cell h)
  have HI := Lib.hid hi
  have n0 : (0 : Int) ≤ l.length := by omega
  have n1 : (l.length : Int) ≤ 65535 := by omega
  clear h hl hi
  go_enter Try.func40, Try.ntmps40
  go_wp2
  go_loopg [8, 9] l.length (fun gk kv dv wr => ∃ k : Nat, kv = .int .i64 k ∧ dv = .bool ((cut l i k).all digitB) ∧ i ≤ k ∧ k ≤ l.length ∧ l.length - k ≤ gk ∧ run hexB l k = run hexB l i ∧ Below w.heap.size w wr)
  case atStart => exact ⟨i, rfl, by rw [cut_self]; rfl, Nat.le_refl _, HI.out, Nat.sub_le _ _, rfl, Below.refl _ _⟩
  case round =>
    obtain ⟨k, rfl, rfl, hik, hkl, hgk, hrn, hw⟩ := hrel
    have HW := Lib.hid hw
    have HG := Lib.hid hgk
    have HIK := Lib.hid hik
    have HKL := Lib.hid hkl
    have HRN := Lib.hid hrn
    have HRR := Lib.hid (HR.out wr hw)
    have q1 : (0 : Int) ≤ k := by omega
    have q2 : (k : Int) ≤ 65535 := by omega
    obtain ⟨v, hv⟩ : ∃ v, l.getD k 0 = v := ⟨_, rfl⟩
    obtain ⟨D, hD⟩ : ∃ D, (cut l i k).all digitB = D := ⟨_, rfl⟩
    have HV := Lib.hid hv
    have HDD := Lib.hid hD
    rw [hD]
    by_cases hx : hexB v = true
    · have hy := run_yes (p := hexB) (by rfl) (hv.symm ▸ hx)
      have hlt := hy.2
      have HN := Lib.hid (hy.1.symm.trans hrn)
      have HLT := Lib.hid hlt
      have k3 : (k : Int) < l.length := by omega
      obtain ⟨b, o, rfl, hc⟩ := HC.out (by omega)
      have hb0 : wr.cell? ⟨b, o + k, none⟩ = some (.int .u8 v) := hv ▸ hc wr hw k hlt
      have HCU := Lib.hid (cut_next hik hlt hv)
      have hbd := hexB_bd hx
      cases hd : digitB v
      · have HD : Hid (digitB v = false) := Lib.hid hd
        have g1 : (65 : Int) ≤ v := hbd.2.2.2 hd
        have g2 : v ≤ 70 := hbd.2.1
        clear hw hgk hik hkl hrn hy hlt hx hbd hd hc hv hD
        cases D
        · go_wp2_with (first | (refine (rat_is HRR.out k (k : Int) v rfl HV.out (by omega)).mono ?_; rintro e w1 ⟨rfl, rfl⟩) | (refine (rdigit_is v false HD.out _).mono ?_; rintro e w1 ⟨rfl, rfl⟩))
          go_roundg (gk - 1)
          case measure => have := HG.out; have := HLT.out; omega
          case rel => exact ⟨k + 1, by go_num, by rw [HCU.out, all_snoc, HDD.out, HD.out]; rfl, by have := HIK.out; omega, HLT.out, by have := HG.out; omega, HN.out, HW.out⟩
        · go_wp2_with (first | (refine (rat_is HRR.out k (k : Int) v rfl HV.out (by omega)).mono ?_; rintro e w1 ⟨rfl, rfl⟩) | (refine (rdigit_is v false HD.out _).mono ?_; rintro e w1 ⟨rfl, rfl⟩))
          go_roundg (gk - 1)
          case measure => have := HG.out; have := HLT.out; omega
          case rel => exact ⟨k + 1, by go_num, by rw [HCU.out, all_snoc, HDD.out, HD.out]; rfl, by have := HIK.out; omega, HLT.out, by have := HG.out; omega, HN.out, HW.out⟩
      · have HD : Hid (digitB v = true) := Lib.hid hd
        clear hw hgk hik hkl hrn hy hlt hx hbd hd hc hv hD
        cases D
        · go_wp2_with (first | (refine (rat_is HRR.out k (k : Int) v rfl HV.out (by omega)).mono ?_; rintro e w1 ⟨rfl, rfl⟩) | (refine (rdigit_is v true HD.out _).mono ?_; rintro e w1 ⟨rfl, rfl⟩))
          go_roundg (gk - 1)
          case measure => have := HG.out; have := HLT.out; omega
          case rel => exact ⟨k + 1, by go_num, by rw [HCU.out, all_snoc, HDD.out, HD.out]; rfl, by have := HIK.out; omega, HLT.out, by have := HG.out; omega, HN.out, HW.out⟩
        · go_wp2_with (first | (refine (rat_is HRR.out k (k : Int) v rfl HV.out (by omega)).mono ?_; rintro e w1 ⟨rfl, rfl⟩) | (refine (rdigit_is v true HD.out _).mono ?_; rintro e w1 ⟨rfl, rfl⟩))
          go_roundg (gk - 1)
          case measure => have := HG.out; have := HLT.out; omega
          case rel => exact ⟨k + 1, by go_num, by rw [HCU.out, all_snoc, HDD.out, HD.out]; rfl, by have := HIK.out; omega, HLT.out, by have := HG.out; omega, HN.out, HW.out⟩
    · have hx' : hexB v = false := by simpa using hx
      have hk : run hexB l i = k := hrn.symm.trans (run_no (hv.symm ▸ hx'))
      have HK := Lib.hid hk
      have HALL := Lib.hid (fun (j : Nat) (h1 : i ≤ j) (h2 : j < k) => run_all (p := hexB) (s := l) (i := i) (j := j) h1 (hk.symm ▸ h2))
      obtain ⟨hd, hcs⟩ := hexB_no hx'
      have HD := Lib.hid hd
      clear hw hgk hik hkl hrn hx hx' hk hv hD hd
      rcases hcs with hcs | hcs | hcs | hcs
      · have g0 : ¬ (65 : Int) ≤ v := by omega
        have hcs : v ≠ 72 ∧ v ≠ 88 := by omega
        have gA : (v != 72) = true := by simpa using hcs.1
        have gB : (v != 88) = true := by simpa using hcs.2
        have HCS := Lib.hid hcs
        clear hcs
        cases D
        · skip
          go_wp2_with (first | (refine (rat_is HRR.out k (k : Int) v rfl HV.out (by omega)).mono ?_; rintro e w1 ⟨rfl, rfl⟩) | (refine (rdigit_is v false HD.out _).mono ?_; rintro e w1 ⟨rfl, rfl⟩))
          go_loopg [11, 12] k (fun gk nv jv wq => ∃ (n : Int) (j : Nat), nv = .int .i64 n ∧ jv = .int .i64 j ∧ i ≤ j ∧ j ≤ k ∧ k - j ≤ gk ∧ 0 ≤ n ∧ n ≤ 21474836502 ∧ ((cut l i k).all digitB = true → decN (cut l i j) = min n 4294967296) ∧ Below w.heap.size w wq)
          case atStart => exact ⟨0, i, rfl, rfl, Nat.le_refl _, HIK.out, by omega, Int.le_refl _, by decide, fun _ => by rw [cut_self]; rfl, HW.out⟩
          case round =>
            obtain ⟨n, j, rfl, rfl, hij, hjk, hgj, hn1, hn2, hdn, hwq⟩ := hrel
            have HWQ := Lib.hid hwq
            have HGJ := Lib.hid hgj
            have HIJ := Lib.hid hij
            have HJK := Lib.hid hjk
            have HDN := Lib.hid hdn
            have r1 : (0 : Int) ≤ j := by omega
            have r2 : (j : Int) ≤ 65535 := by omega
            by_cases hjl : j < k
            · have j3 : (j : Int) < k := by omega
              have hjlt : j < l.length := by have := HKL.out; omega
              have j4 : (j : Int) < l.length := by omega
              have HJL := Lib.hid hjl
              by_cases hn5 : n ≤ 2147483648
              · obtain ⟨b, o, rfl, hc⟩ := HC.out (by omega)
                obtain ⟨v5, hv5⟩ : ∃ v5, l.getD j 0 = v5 := ⟨_, rfl⟩
                have hb0 : wr.cell? ⟨b, o + j, none⟩ = some (.int .u8 v5) := hv5 ▸ hc wr hwq j hjlt
                have HV5 := Lib.hid hv5
                have hbd := hexB_bd (HALL.out j hij hjl)
                rw [hv5] at hbd
                have g1 := hbd.1
                have g2 := hbd.2.1
                have HCU := Lib.hid (cut_next hij hjlt hv5)
                clear hwq hgj hij hjk hdn hjl hc hbd hv5 hjlt
                go_wp2
                go_roundg (gk - 1)
                case measure => have := HGJ.out; have := HJL.out; omega
                case rel => exact ⟨_, j + 1, rfl, by go_num, by have := HIJ.out; omega, HJL.out, by have := HGJ.out; omega, by omega, by omega, fun h => by rw [HCU.out, decN_snoc, HDN.out h]; unfold decF; omega, HWQ.out⟩
              · have hn6 : 2147483648 < n := by omega
                have hno : (cut l i k).all digitB = true → 2147483647 < decN (cut l i k) := fun h => by
                  have h1 := decN_mono h hij hjk HKL.out
                  have h2 := HDN.out h
                  omega
                have HNO := Lib.hid hno
                clear hwq hgj hij hjk hdn hjl hjlt hno
                by_cases hn3 : n < 2147483648
                · have hmod : n % 4294967296 = n := by omega
                  exfalso; omega
                · have hn4 : 2147483648 ≤ n := by omega
                  obtain ⟨U, hU⟩ : ∃ U, n % 4294967296 = U := ⟨_, rfl⟩
                  have u1 : 0 ≤ U := by omega
                  have u2 : U < 4294967296 := by omega
                  by_cases u3 : U < 2147483648
                  · skip
                    go_wp2
                    ((try simp only [Exit.inBlock, Exit.then]); refine bodyPost_ret (results_tmp4 rfl _ _ _) rfl ?_)
                    exact num_dec_no HK.out HV.out HCS.out HDD.out HNO.out HWQ.out
                  · have u4 : 2147483648 ≤ U := by omega
                    go_wp2
                    ((try simp only [Exit.inBlock, Exit.then]); refine bodyPost_ret (results_tmp4 rfl _ _ _) rfl ?_)
                    exact num_dec_no HK.out HV.out HCS.out HDD.out HNO.out HWQ.out
            · have hjk' : j = k := by omega
              subst hjk'
              clear hwq hgj hij hjk hdn hjl
              by_cases hn3 : n < 2147483648
              · have hmod : n % 4294967296 = n := by omega
                go_wp2
                ((try simp only [Exit.inBlock, Exit.then]); refine bodyPost_ret (results_tmp4 rfl _ _ _) rfl ?_)
                exact num_dec_no HK.out HV.out HCS.out HDD.out (fun h => by rw [HDD.out] at h; cases h) HWQ.out
              · have hn4 : 2147483648 ≤ n := by omega
                obtain ⟨U, hU⟩ : ∃ U, n % 4294967296 = U := ⟨_, rfl⟩
                have u1 : 0 ≤ U := by omega
                have u2 : U < 4294967296 := by omega
                by_cases u3 : U < 2147483648
                · skip
                  go_wp2
                  ((try simp only [Exit.inBlock, Exit.then]); refine bodyPost_ret (results_tmp4 rfl _ _ _) rfl ?_)
                  exact num_dec_no HK.out HV.out HCS.out HDD.out (fun h => by rw [HDD.out] at h; cases h) HWQ.out
                · have u4 : 2147483648 ≤ U := by omega
                  go_wp2
                  ((try simp only [Exit.inBlock, Exit.then]); refine bodyPost_ret (results_tmp4 rfl _ _ _) rfl ?_)
                  exact num_dec_no HK.out HV.out HCS.out HDD.out (fun h => by rw [HDD.out] at h; cases h) HWQ.out
        · skip
          go_wp2_with (first | (refine (rat_is HRR.out k (k : Int) v rfl HV.out (by omega)).mono ?_; rintro e w1 ⟨rfl, rfl⟩) | (refine (rdigit_is v false HD.out _).mono ?_; rintro e w1 ⟨rfl, rfl⟩))
          go_loopg [11, 12] k (fun gk nv jv wq => ∃ (n : Int) (j : Nat), nv = .int .i64 n ∧ jv = .int .i64 j ∧ i ≤ j ∧ j ≤ k ∧ k - j ≤ gk ∧ 0 ≤ n ∧ n ≤ 21474836502 ∧ ((cut l i k).all digitB = true → decN (cut l i j) = min n 4294967296) ∧ Below w.heap.size w wq)
          case atStart => exact ⟨0, i, rfl, rfl, Nat.le_refl _, HIK.out, by omega, Int.le_refl _, by decide, fun _ => by rw [cut_self]; rfl, HW.out⟩
          case round =>
            obtain ⟨n, j, rfl, rfl, hij, hjk, hgj, hn1, hn2, hdn, hwq⟩ := hrel
            have HWQ := Lib.hid hwq
            have HGJ := Lib.hid hgj
            have HIJ := Lib.hid hij
            have HJK := Lib.hid hjk
            have HDN := Lib.hid hdn
            have r1 : (0 : Int) ≤ j := by omega
            have r2 : (j : Int) ≤ 65535 := by omega
            by_cases hjl : j < k
            · have j3 : (j : Int) < k := by omega
              have hjlt : j < l.length := by have := HKL.out; omega
              have j4 : (j : Int) < l.length := by omega
              have HJL := Lib.hid hjl
              by_cases hn5 : n ≤ 2147483648
              · obtain ⟨b, o, rfl, hc⟩ := HC.out (by omega)
                obtain ⟨v5, hv5⟩ : ∃ v5, l.getD j 0 = v5 := ⟨_, rfl⟩
                have hb0 : wr.cell? ⟨b, o + j, none⟩ = some (.int .u8 v5) := hv5 ▸ hc wr hwq j hjlt
                have HV5 := Lib.hid hv5
                have hbd := hexB_bd (HALL.out j hij hjl)
                rw [hv5] at hbd
                have g1 := hbd.1
                have g2 := hbd.2.1
                have HCU := Lib.hid (cut_next hij hjlt hv5)
                clear hwq hgj hij hjk hdn hjl hc hbd hv5 hjlt
                go_wp2
                go_roundg (gk - 1)
                case measure => have := HGJ.out; have := HJL.out; omega
                case rel => exact ⟨_, j + 1, rfl, by go_num, by have := HIJ.out; omega, HJL.out, by have := HGJ.out; omega, by omega, by omega, fun h => by rw [HCU.out, decN_snoc, HDN.out h]; unfold decF; omega, HWQ.out⟩
              · have hn6 : 2147483648 < n := by omega
                have hno : (cut l i k).all digitB = true → 2147483647 < decN (cut l i k) := fun h => by
                  have h1 := decN_mono h hij hjk HKL.out
                  have h2 := HDN.out h
                  omega
                have HNO := Lib.hid hno
                clear hwq hgj hij hjk hdn hjl hjlt hno
                by_cases hn3 : n < 2147483648
                · have hmod : n % 4294967296 = n := by omega
                  exfalso; omega
                · have hn4 : 2147483648 ≤ n := by omega
                  obtain ⟨U, hU⟩ : ∃ U, n % 4294967296 = U := ⟨_, rfl⟩
                  have u1 : 0 ≤ U := by omega
                  have u2 : U < 4294967296 := by omega
                  by_cases u3 : U < 2147483648
                  · skip
                    go_wp2
                    ((try simp only [Exit.inBlock, Exit.then]); refine bodyPost_ret (results_tmp4 rfl _ _ _) rfl ?_)
                    exact num_dec_no HK.out HV.out HCS.out HDD.out HNO.out HWQ.out
                  · have u4 : 2147483648 ≤ U := by omega
                    go_wp2
                    ((try simp only [Exit.inBlock, Exit.then]); refine bodyPost_ret (results_tmp4 rfl _ _ _) rfl ?_)
                    exact num_dec_no HK.out HV.out HCS.out HDD.out HNO.out HWQ.out
            · have hjk' : j = k := by omega
              subst hjk'
              clear hwq hgj hij hjk hdn hjl
              by_cases hn3 : n < 2147483648
              · have hmod : n % 4294967296 = n := by omega
                go_wp2
                ((try simp only [Exit.inBlock, Exit.then]); refine bodyPost_ret (results_tmp4 rfl _ _ _) rfl ?_)
                exact num_dec_ok HK.out HV.out HCS.out HDD.out (HDN.out HDD.out) (by omega) hn1 HWQ.out
              · have hn4 : 2147483648 ≤ n := by omega
                obtain ⟨U, hU⟩ : ∃ U, n % 4294967296 = U := ⟨_, rfl⟩
                have u1 : 0 ≤ U := by omega
                have u2 : U < 4294967296 := by omega
                by_cases u3 : U < 2147483648
                · skip
                  go_wp2
                  ((try simp only [Exit.inBlock, Exit.then]); refine bodyPost_ret (results_tmp4 rfl _ _ _) rfl ?_)
                  exact num_dec_no HK.out HV.out HCS.out HDD.out (fun h => by rw [HDN.out h]; omega) HWQ.out
                · have u4 : 2147483648 ≤ U := by omega
                  go_wp2
                  ((try simp only [Exit.inBlock, Exit.then]); refine bodyPost_ret (results_tmp4 rfl _ _ _) rfl ?_)
                  exact num_dec_no HK.out HV.out HCS.out HDD.out (fun h => by rw [HDN.out h]; omega) HWQ.out
      · have g0 : (65 : Int) ≤ v := by omega
        have g2 : ¬ v ≤ 70 := by omega
        have hcs : v ≠ 72 ∧ v ≠ 88 := hcs.2
        have gA : (v != 72) = true := by simpa using hcs.1
        have gB : (v != 88) = true := by simpa using hcs.2
        have HCS := Lib.hid hcs
        clear hcs
        cases D
        · skip
          go_wp2_with (first | (refine (rat_is HRR.out k (k : Int) v rfl HV.out (by omega)).mono ?_; rintro e w1 ⟨rfl, rfl⟩) | (refine (rdigit_is v false HD.out _).mono ?_; rintro e w1 ⟨rfl, rfl⟩))
          go_loopg [11, 12] k (fun gk nv jv wq => ∃ (n : Int) (j : Nat), nv = .int .i64 n ∧ jv = .int .i64 j ∧ i ≤ j ∧ j ≤ k ∧ k - j ≤ gk ∧ 0 ≤ n ∧ n ≤ 21474836502 ∧ ((cut l i k).all digitB = true → decN (cut l i j) = min n 4294967296) ∧ Below w.heap.size w wq)
          case atStart => exact ⟨0, i, rfl, rfl, Nat.le_refl _, HIK.out, by omega, Int.le_refl _, by decide, fun _ => by rw [cut_self]; rfl, HW.out⟩
          case round =>
            obtain ⟨n, j, rfl, rfl, hij, hjk, hgj, hn1, hn2, hdn, hwq⟩ := hrel
            have HWQ := Lib.hid hwq
            have HGJ := Lib.hid hgj
            have HIJ := Lib.hid hij
            have HJK := Lib.hid hjk
            have HDN := Lib.hid hdn
            have r1 : (0 : Int) ≤ j := by omega
            have r2 : (j : Int) ≤ 65535 := by omega
            by_cases hjl : j < k
            · have j3 : (j : Int) < k := by omega
              have hjlt : j < l.length := by have := HKL.out; omega
              have j4 : (j : Int) < l.length := by omega
              have HJL := Lib.hid hjl
              by_cases hn5 : n ≤ 2147483648
              · obtain ⟨b, o, rfl, hc⟩ := HC.out (by omega)
                obtain ⟨v5, hv5⟩ : ∃ v5, l.getD j 0 = v5 := ⟨_, rfl⟩
                have hb0 : wr.cell? ⟨b, o + j, none⟩ = some (.int .u8 v5) := hv5 ▸ hc wr hwq j hjlt
                have HV5 := Lib.hid hv5
                have hbd := hexB_bd (HALL.out j hij hjl)
                rw [hv5] at hbd
                have g1 := hbd.1
                have g2 := hbd.2.1
                have HCU := Lib.hid (cut_next hij hjlt hv5)
                clear hwq hgj hij hjk hdn hjl hc hbd hv5 hjlt
                go_wp2
                go_roundg (gk - 1)
                case measure => have := HGJ.out; have := HJL.out; omega
                case rel => exact ⟨_, j + 1, rfl, by go_num, by have := HIJ.out; omega, HJL.out, by have := HGJ.out; omega, by omega, by omega, fun h => by rw [HCU.out, decN_snoc, HDN.out h]; unfold decF; omega, HWQ.out⟩
              · have hn6 : 2147483648 < n := by omega
                have hno : (cut l i k).all digitB = true → 2147483647 < decN (cut l i k) := fun h => by
                  have h1 := decN_mono h hij hjk HKL.out
                  have h2 := HDN.out h
                  omega
                have HNO := Lib.hid hno
                clear hwq hgj hij hjk hdn hjl hjlt hno
                by_cases hn3 : n < 2147483648
                · have hmod : n % 4294967296 = n := by omega
                  exfalso; omega
                · have hn4 : 2147483648 ≤ n := by omega
                  obtain ⟨U, hU⟩ : ∃ U, n % 4294967296 = U := ⟨_, rfl⟩
                  have u1 : 0 ≤ U := by omega
                  have u2 : U < 4294967296 := by omega
                  by_cases u3 : U < 2147483648
                  · skip
                    go_wp2
                    ((try simp only [Exit.inBlock, Exit.then]); refine bodyPost_ret (results_tmp4 rfl _ _ _) rfl ?_)
                    exact num_dec_no HK.out HV.out HCS.out HDD.out HNO.out HWQ.out
                  · have u4 : 2147483648 ≤ U := by omega
                    go_wp2
                    ((try simp only [Exit.inBlock, Exit.then]); refine bodyPost_ret (results_tmp4 rfl _ _ _) rfl ?_)
                    exact num_dec_no HK.out HV.out HCS.out HDD.out HNO.out HWQ.out
            · have hjk' : j = k := by omega
              subst hjk'
              clear hwq hgj hij hjk hdn hjl
              by_cases hn3 : n < 2147483648
              · have hmod : n % 4294967296 = n := by omega
                go_wp2
                ((try simp only [Exit.inBlock, Exit.then]); refine bodyPost_ret (results_tmp4 rfl _ _ _) rfl ?_)
                exact num_dec_no HK.out HV.out HCS.out HDD.out (fun h => by rw [HDD.out] at h; cases h) HWQ.out
              · have hn4 : 2147483648 ≤ n := by omega
                obtain ⟨U, hU⟩ : ∃ U, n % 4294967296 = U := ⟨_, rfl⟩
                have u1 : 0 ≤ U := by omega
                have u2 : U < 4294967296 := by omega
                by_cases u3 : U < 2147483648
                · skip
                  go_wp2
                  ((try simp only [Exit.inBlock, Exit.then]); refine bodyPost_ret (results_tmp4 rfl _ _ _) rfl ?_)
                  exact num_dec_no HK.out HV.out HCS.out HDD.out (fun h => by rw [HDD.out] at h; cases h) HWQ.out
                · have u4 : 2147483648 ≤ U := by omega
                  go_wp2
                  ((try simp only [Exit.inBlock, Exit.then]); refine bodyPost_ret (results_tmp4 rfl _ _ _) rfl ?_)
                  exact num_dec_no HK.out HV.out HCS.out HDD.out (fun h => by rw [HDD.out] at h; cases h) HWQ.out
        · skip
          go_wp2_with (first | (refine (rat_is HRR.out k (k : Int) v rfl HV.out (by omega)).mono ?_; rintro e w1 ⟨rfl, rfl⟩) | (refine (rdigit_is v false HD.out _).mono ?_; rintro e w1 ⟨rfl, rfl⟩))
          go_loopg [11, 12] k (fun gk nv jv wq => ∃ (n : Int) (j : Nat), nv = .int .i64 n ∧ jv = .int .i64 j ∧ i ≤ j ∧ j ≤ k ∧ k - j ≤ gk ∧ 0 ≤ n ∧ n ≤ 21474836502 ∧ ((cut l i k).all digitB = true → decN (cut l i j) = min n 4294967296) ∧ Below w.heap.size w wq)
          case atStart => exact ⟨0, i, rfl, rfl, Nat.le_refl _, HIK.out, by omega, Int.le_refl _, by decide, fun _ => by rw [cut_self]; rfl, HW.out⟩
          case round =>
            obtain ⟨n, j, rfl, rfl, hij, hjk, hgj, hn1, hn2, hdn, hwq⟩ := hrel
            have HWQ := Lib.hid hwq
            have HGJ := Lib.hid hgj
            have HIJ := Lib.hid hij
            have HJK := Lib.hid hjk
            have HDN := Lib.hid hdn
            have r1 : (0 : Int) ≤ j := by omega
            have r2 : (j : Int) ≤ 65535 := by omega
            by_cases hjl : j < k
            · have j3 : (j : Int) < k := by omega
              have hjlt : j < l.length := by have := HKL.out; omega
              have j4 : (j : Int) < l.length := by omega
              have HJL := Lib.hid hjl
              by_cases hn5 : n ≤ 2147483648
              · obtain ⟨b, o, rfl, hc⟩ := HC.out (by omega)
                obtain ⟨v5, hv5⟩ : ∃ v5, l.getD j 0 = v5 := ⟨_, rfl⟩
                have hb0 : wr.cell? ⟨b, o + j, none⟩ = some (.int .u8 v5) := hv5 ▸ hc wr hwq j hjlt
                have HV5 := Lib.hid hv5
                have hbd := hexB_bd (HALL.out j hij hjl)
                rw [hv5] at hbd
                have g1 := hbd.1
                have g2 := hbd.2.1
                have HCU := Lib.hid (cut_next hij hjlt hv5)
                clear hwq hgj hij hjk hdn hjl hc hbd hv5 hjlt
                go_wp2
                go_roundg (gk - 1)
                case measure => have := HGJ.out; have := HJL.out; omega
                case rel => exact ⟨_, j + 1, rfl, by go_num, by have := HIJ.out; omega, HJL.out, by have := HGJ.out; omega, by omega, by omega, fun h => by rw [HCU.out, decN_snoc, HDN.out h]; unfold decF; omega, HWQ.out⟩
              · have hn6 : 2147483648 < n := by omega
                have hno : (cut l i k).all digitB = true → 2147483647 < decN (cut l i k) := fun h => by
                  have h1 := decN_mono h hij hjk HKL.out
                  have h2 := HDN.out h
                  omega
                have HNO := Lib.hid hno
                clear hwq hgj hij hjk hdn hjl hjlt hno
                by_cases hn3 : n < 2147483648
                · have hmod : n % 4294967296 = n := by omega
                  exfalso; omega
                · have hn4 : 2147483648 ≤ n := by omega
                  obtain ⟨U, hU⟩ : ∃ U, n % 4294967296 = U := ⟨_, rfl⟩
                  have u1 : 0 ≤ U := by omega
                  have u2 : U < 4294967296 := by omega
                  by_cases u3 : U < 2147483648
                  · skip
                    go_wp2
                    ((try simp only [Exit.inBlock, Exit.then]); refine bodyPost_ret (results_tmp4 rfl _ _ _) rfl ?_)
                    exact num_dec_no HK.out HV.out HCS.out HDD.out HNO.out HWQ.out
                  · have u4 : 2147483648 ≤ U := by omega
                    go_wp2
                    ((try simp only [Exit.inBlock, Exit.then]); refine bodyPost_ret (results_tmp4 rfl _ _ _) rfl ?_)
                    exact num_dec_no HK.out HV.out HCS.out HDD.out HNO.out HWQ.out
            · have hjk' : j = k := by omega
              subst hjk'
              clear hwq hgj hij hjk hdn hjl
              by_cases hn3 : n < 2147483648
              · have hmod : n % 4294967296 = n := by omega
                go_wp2
                ((try simp only [Exit.inBlock, Exit.then]); refine bodyPost_ret (results_tmp4 rfl _ _ _) rfl ?_)
                exact num_dec_ok HK.out HV.out HCS.out HDD.out (HDN.out HDD.out) (by omega) hn1 HWQ.out
              · have hn4 : 2147483648 ≤ n := by omega
                obtain ⟨U, hU⟩ : ∃ U, n % 4294967296 = U := ⟨_, rfl⟩
                have u1 : 0 ≤ U := by omega
                have u2 : U < 4294967296 := by omega
                by_cases u3 : U < 2147483648
                · skip
                  go_wp2
                  ((try simp only [Exit.inBlock, Exit.then]); refine bodyPost_ret (results_tmp4 rfl _ _ _) rfl ?_)
                  exact num_dec_no HK.out HV.out HCS.out HDD.out (fun h => by rw [HDN.out h]; omega) HWQ.out
                · have u4 : 2147483648 ≤ U := by omega
                  go_wp2
                  ((try simp only [Exit.inBlock, Exit.then]); refine bodyPost_ret (results_tmp4 rfl _ _ _) rfl ?_)
                  exact num_dec_no HK.out HV.out HCS.out HDD.out (fun h => by rw [HDN.out h]; omega) HWQ.out
      · subst hcs
        go_wp2_with (first | (refine (rat_is HRR.out k (k : Int) 72 rfl HV.out (by omega)).mono ?_; rintro e w1 ⟨rfl, rfl⟩) | (refine (rdigit_is 72 false HD.out _).mono ?_; rintro e w1 ⟨rfl, rfl⟩))
        go_loopg [13, 14, 15] k (fun gk nv dv jv wq => ∃ j : Nat, nv = .int .u32 (hexN (cut l i j)) ∧ dv = .int .i64 (sig (cut l i j)) ∧ jv = .int .i64 j ∧ i ≤ j ∧ j ≤ k ∧ k - j ≤ gk ∧ Below w.heap.size w wq)
        case atStart => exact ⟨i, by rw [cut_self]; rfl, by rw [cut_self]; rfl, rfl, Nat.le_refl _, HIK.out, by omega, HW.out⟩
        case round =>
          obtain ⟨j, rfl, rfl, rfl, hij, hjk, hgj, hwq⟩ := hrel
          have HWQ := Lib.hid hwq
          have HGJ := Lib.hid hgj
          have HIJ := Lib.hid hij
          have HJK := Lib.hid hjk
          have r1 : (0 : Int) ≤ j := by omega
          have r2 : (j : Int) ≤ 65535 := by omega
          obtain ⟨N, hN⟩ : ∃ N, hexN (cut l i j) = N := ⟨_, rfl⟩
          obtain ⟨G, hG⟩ : ∃ G, sig (cut l i j) = G := ⟨_, rfl⟩
          have HNN := Lib.hid hN
          have HGG := Lib.hid hG
          have hnb := hexN_bd (cut l i j)
          have hgb := sig_le (cut l i j)
          rw [cut_len l i j (by have := HKL.out; omega)] at hgb
          rw [hN] at hnb ⊢
          rw [hG] at hgb ⊢
          have m1 := hnb.1
          have m2 := hnb.2
          have s1 : (0 : Int) ≤ G := by omega
          have s2 : (G : Int) ≤ 65535 := by omega
          by_cases hjl : j < k
          · have j3 : (j : Int) < k := by omega
            have hjlt : j < l.length := by have := HKL.out; omega
            have j4 : (j : Int) < l.length := by omega
            have HJL := Lib.hid hjl
            obtain ⟨b, o, rfl, hc⟩ := HC.out (by omega)
            obtain ⟨v5, hv5⟩ : ∃ v5, l.getD j 0 = v5 := ⟨_, rfl⟩
            have hb0 : wr.cell? ⟨b, o + j, none⟩ = some (.int .u8 v5) := hv5 ▸ hc wr hwq j hjlt
            have hx5 := HALL.out j hij hjl
            rw [hv5] at hx5
            have hbd := hexB_bd hx5
            have hdv := digV_bd hx5
            have g1 := hbd.1
            have g2 := hbd.2.1
            have HCU := Lib.hid (cut_next hij hjlt hv5)
            have HSG := Lib.hid (sigF_pos G (v := v5))
            cases hd5 : digitB v5
            · have HD5 : Hid (digitB v5 = false) := Lib.hid hd5
              have g3 : 65 ≤ v5 := hbd.2.2.2 hd5
              have hdg : digV v5 = v5 - 65 + 10 := by unfold digV; rw [hd5]; rfl
              have HDG := Lib.hid hdg
              clear hwq hgj hij hjk hjl hc hbd hv5 hjlt hN hG hnb hgb hx5 hdv hd5 hdg
              by_cases hg0 : 0 < G
              · have hg1 : (0 : Int) < G := by omega
                go_wp2_with (refine (rdigit_is v5 false HD5.out _).mono ?_; rintro e w1 ⟨rfl, rfl⟩)
                go_roundg (gk - 1)
                case measure => have := HGJ.out; have := HJL.out; omega
                case rel => exact ⟨j + 1, by rw [HCU.out, hexN_snoc, HNN.out]; unfold hexF; rw [HDG.out]; go_num, by rw [HCU.out, sig_snoc, HGG.out, HSG.out.1 (by have := HDG.out; omega)]; go_num, by go_num, by have := HIJ.out; omega, HJL.out, by have := HGJ.out; omega, HWQ.out⟩
              · have hg1 : ¬ (0 : Int) < G := by omega
                have h6 : 0 < v5 - 65 + 10 := by omega
                go_wp2_with (refine (rdigit_is v5 false HD5.out _).mono ?_; rintro e w1 ⟨rfl, rfl⟩)
                go_roundg (gk - 1)
                case measure => have := HGJ.out; have := HJL.out; omega
                case rel => exact ⟨j + 1, by rw [HCU.out, hexN_snoc, HNN.out]; unfold hexF; rw [HDG.out]; go_num, by rw [HCU.out, sig_snoc, HGG.out, HSG.out.1 (by have := HDG.out; omega)]; go_num, by go_num, by have := HIJ.out; omega, HJL.out, by have := HGJ.out; omega, HWQ.out⟩
            · have HD5 : Hid (digitB v5 = true) := Lib.hid hd5
              have g3 : v5 ≤ 57 := hbd.2.2.1 hd5
              have hdg : digV v5 = v5 - 48 := by unfold digV; rw [hd5]; rfl
              have HDG := Lib.hid hdg
              clear hwq hgj hij hjk hjl hc hbd hv5 hjlt hN hG hnb hgb hx5 hdv hd5 hdg
              by_cases hg0 : 0 < G
              · have hg1 : (0 : Int) < G := by omega
                go_wp2_with (refine (rdigit_is v5 true HD5.out _).mono ?_; rintro e w1 ⟨rfl, rfl⟩)
                go_roundg (gk - 1)
                case measure => have := HGJ.out; have := HJL.out; omega
                case rel => exact ⟨j + 1, by rw [HCU.out, hexN_snoc, HNN.out]; unfold hexF; rw [HDG.out]; go_num, by rw [HCU.out, sig_snoc, HGG.out, HSG.out.1 (by have := HDG.out; omega)]; go_num, by go_num, by have := HIJ.out; omega, HJL.out, by have := HGJ.out; omega, HWQ.out⟩
              · have hg1 : ¬ (0 : Int) < G := by omega
                by_cases h5 : 48 < v5
                · have h6 : 0 < v5 - 48 := by omega
                  go_wp2_with (refine (rdigit_is v5 true HD5.out _).mono ?_; rintro e w1 ⟨rfl, rfl⟩)
                  go_roundg (gk - 1)
                  case measure => have := HGJ.out; have := HJL.out; omega
                  case rel => exact ⟨j + 1, by rw [HCU.out, hexN_snoc, HNN.out]; unfold hexF; rw [HDG.out]; go_num, by rw [HCU.out, sig_snoc, HGG.out, HSG.out.1 (by have := HDG.out; omega)]; go_num, by go_num, by have := HIJ.out; omega, HJL.out, by have := HGJ.out; omega, HWQ.out⟩
                · have h6 : ¬ 0 < v5 - 48 := by omega
                  go_wp2_with (refine (rdigit_is v5 true HD5.out _).mono ?_; rintro e w1 ⟨rfl, rfl⟩)
                  go_roundg (gk - 1)
                  case measure => have := HGJ.out; have := HJL.out; omega
                  case rel => exact ⟨j + 1, by rw [HCU.out, hexN_snoc, HNN.out]; unfold hexF; rw [HDG.out]; go_num, by rw [HCU.out, sig_snoc, HGG.out, HSG.out.2 (by have := HDG.out; omega)], by go_num, by have := HIJ.out; omega, HJL.out, by have := HGJ.out; omega, HWQ.out⟩
          · have hjk' : j = k := by omega
            subst hjk'
            clear hwq hgj hij hjk hjl hN hG hnb hgb
            by_cases h8 : G ≤ 8
            · have h8' : (G : Int) ≤ 8 := by omega
              by_cases hs : N < 2147483648
              · skip
                go_wp2
                ((try simp only [Exit.inBlock, Exit.then]); refine bodyPost_ret (results_tmp4 rfl _ _ _) rfl ?_)
                exact num_hex72 HK.out HV.out HNN.out HGG.out (by first | (exact (i32_wrap m1 m2).symm) | (unfold i32; split <;> omega)) (by simp [h8]) trivial HWQ.out
              · have hs' : 2147483648 ≤ N := by omega
                go_wp2
                ((try simp only [Exit.inBlock, Exit.then]); refine bodyPost_ret (results_tmp4 rfl _ _ _) rfl ?_)
                exact num_hex72 HK.out HV.out HNN.out HGG.out (by first | (exact (i32_wrap m1 m2).symm) | (unfold i32; split <;> omega)) (by simp [h8]) trivial HWQ.out
            
            · have h8' : ¬ (G : Int) ≤ 8 := by omega
              by_cases hs : N < 2147483648
              · skip
                go_wp2
                ((try simp only [Exit.inBlock, Exit.then]); refine bodyPost_ret (results_tmp4 rfl _ _ _) rfl ?_)
                exact num_hex72 HK.out HV.out HNN.out HGG.out (by first | (exact (i32_wrap m1 m2).symm) | (unfold i32; split <;> omega)) (by simp [h8]) trivial HWQ.out
              · have hs' : 2147483648 ≤ N := by omega
                go_wp2
                ((try simp only [Exit.inBlock, Exit.then]); refine bodyPost_ret (results_tmp4 rfl _ _ _) rfl ?_)
                exact num_hex72 HK.out HV.out HNN.out HGG.out (by first | (exact (i32_wrap m1 m2).symm) | (unfold i32; split <;> omega)) (by simp [h8]) trivial HWQ.out
      · subst hcs
        go_wp2_with (first | (refine (rat_is HRR.out k (k : Int) 88 rfl HV.out (by omega)).mono ?_; rintro e w1 ⟨rfl, rfl⟩) | (refine (rdigit_is 88 false HD.out _).mono ?_; rintro e w1 ⟨rfl, rfl⟩))
        go_loopg [13, 14, 15] k (fun gk nv dv jv wq => ∃ j : Nat, nv = .int .u32 (hexN (cut l i j)) ∧ dv = .int .i64 (sig (cut l i j)) ∧ jv = .int .i64 j ∧ i ≤ j ∧ j ≤ k ∧ k - j ≤ gk ∧ Below w.heap.size w wq)
        case atStart => exact ⟨i, by rw [cut_self]; rfl, by rw [cut_self]; rfl, rfl, Nat.le_refl _, HIK.out, by omega, HW.out⟩
        case round =>
          obtain ⟨j, rfl, rfl, rfl, hij, hjk, hgj, hwq⟩ := hrel
          have HWQ := Lib.hid hwq
          have HGJ := Lib.hid hgj
          have HIJ := Lib.hid hij
          have HJK := Lib.hid hjk
          have r1 : (0 : Int) ≤ j := by omega
          have r2 : (j : Int) ≤ 65535 := by omega
          obtain ⟨N, hN⟩ : ∃ N, hexN (cut l i j) = N := ⟨_, rfl⟩
          obtain ⟨G, hG⟩ : ∃ G, sig (cut l i j) = G := ⟨_, rfl⟩
          have HNN := Lib.hid hN
          have HGG := Lib.hid hG
          have hnb := hexN_bd (cut l i j)
          have hgb := sig_le (cut l i j)
          rw [cut_len l i j (by have := HKL.out; omega)] at hgb
          rw [hN] at hnb ⊢
          rw [hG] at hgb ⊢
          have m1 := hnb.1
          have m2 := hnb.2
          have s1 : (0 : Int) ≤ G := by omega
          have s2 : (G : Int) ≤ 65535 := by omega
          by_cases hjl : j < k
          · have j3 : (j : Int) < k := by omega
            have hjlt : j < l.length := by have := HKL.out; omega
            have j4 : (j : Int) < l.length := by omega
            have HJL := Lib.hid hjl
            obtain ⟨b, o, rfl, hc⟩ := HC.out (by omega)
            obtain ⟨v5, hv5⟩ : ∃ v5, l.getD j 0 = v5 := ⟨_, rfl⟩
            have hb0 : wr.cell? ⟨b, o + j, none⟩ = some (.int .u8 v5) := hv5 ▸ hc wr hwq j hjlt
            have hx5 := HALL.out j hij hjl
            rw [hv5] at hx5
            have hbd := hexB_bd hx5
            have hdv := digV_bd hx5
            have g1 := hbd.1
            have g2 := hbd.2.1
            have HCU := Lib.hid (cut_next hij hjlt hv5)
            have HSG := Lib.hid (sigF_pos G (v := v5))
            cases hd5 : digitB v5
            · have HD5 : Hid (digitB v5 = false) := Lib.hid hd5
              have g3 : 65 ≤ v5 := hbd.2.2.2 hd5
              have hdg : digV v5 = v5 - 65 + 10 := by unfold digV; rw [hd5]; rfl
              have HDG := Lib.hid hdg
              clear hwq hgj hij hjk hjl hc hbd hv5 hjlt hN hG hnb hgb hx5 hdv hd5 hdg
              by_cases hg0 : 0 < G
              · have hg1 : (0 : Int) < G := by omega
                go_wp2_with (refine (rdigit_is v5 false HD5.out _).mono ?_; rintro e w1 ⟨rfl, rfl⟩)
                go_roundg (gk - 1)
                case measure => have := HGJ.out; have := HJL.out; omega
                case rel => exact ⟨j + 1, by rw [HCU.out, hexN_snoc, HNN.out]; unfold hexF; rw [HDG.out]; go_num, by rw [HCU.out, sig_snoc, HGG.out, HSG.out.1 (by have := HDG.out; omega)]; go_num, by go_num, by have := HIJ.out; omega, HJL.out, by have := HGJ.out; omega, HWQ.out⟩
              · have hg1 : ¬ (0 : Int) < G := by omega
                have h6 : 0 < v5 - 65 + 10 := by omega
                go_wp2_with (refine (rdigit_is v5 false HD5.out _).mono ?_; rintro e w1 ⟨rfl, rfl⟩)
                go_roundg (gk - 1)
                case measure => have := HGJ.out; have := HJL.out; omega
                case rel => exact ⟨j + 1, by rw [HCU.out, hexN_snoc, HNN.out]; unfold hexF; rw [HDG.out]; go_num, by rw [HCU.out, sig_snoc, HGG.out, HSG.out.1 (by have := HDG.out; omega)]; go_num, by go_num, by have := HIJ.out; omega, HJL.out, by have := HGJ.out; omega, HWQ.out⟩
            · have HD5 : Hid (digitB v5 = true) := Lib.hid hd5
              have g3 : v5 ≤ 57 := hbd.2.2.1 hd5
              have hdg : digV v5 = v5 - 48 := by unfold digV; rw [hd5]; rfl
              have HDG := Lib.hid hdg
              clear hwq hgj hij hjk hjl hc hbd hv5 hjlt hN hG hnb hgb hx5 hdv hd5 hdg
              by_cases hg0 : 0 < G
              · have hg1 : (0 : Int) < G := by omega
                go_wp2_with (refine (rdigit_is v5 true HD5.out _).mono ?_; rintro e w1 ⟨rfl, rfl⟩)
                go_roundg (gk - 1)
                case measure => have := HGJ.out; have := HJL.out; omega
                case rel => exact ⟨j + 1, by rw [HCU.out, hexN_snoc, HNN.out]; unfold hexF; rw [HDG.out]; go_num, by rw [HCU.out, sig_snoc, HGG.out, HSG.out.1 (by have := HDG.out; omega)]; go_num, by go_num, by have := HIJ.out; omega, HJL.out, by have := HGJ.out; omega, HWQ.out⟩
              · have hg1 : ¬ (0 : Int) < G := by omega
                by_cases h5 : 48 < v5
                · have h6 : 0 < v5 - 48 := by omega
                  go_wp2_with (refine (rdigit_is v5 true HD5.out _).mono ?_; rintro e w1 ⟨rfl, rfl⟩)
                  go_roundg (gk - 1)
                  case measure => have := HGJ.out; have := HJL.out; omega
                  case rel => exact ⟨j + 1, by rw [HCU.out, hexN_snoc, HNN.out]; unfold hexF; rw [HDG.out]; go_num, by rw [HCU.out, sig_snoc, HGG.out, HSG.out.1 (by have := HDG.out; omega)]; go_num, by go_num, by have := HIJ.out; omega, HJL.out, by have := HGJ.out; omega, HWQ.out⟩
                · have h6 : ¬ 0 < v5 - 48 := by omega
                  go_wp2_with (refine (rdigit_is v5 true HD5.out _).mono ?_; rintro e w1 ⟨rfl, rfl⟩)
                  go_roundg (gk - 1)
                  case measure => have := HGJ.out; have := HJL.out; omega
                  case rel => exact ⟨j + 1, by rw [HCU.out, hexN_snoc, HNN.out]; unfold hexF; rw [HDG.out]; go_num, by rw [HCU.out, sig_snoc, HGG.out, HSG.out.2 (by have := HDG.out; omega)], by go_num, by have := HIJ.out; omega, HJL.out, by have := HGJ.out; omega, HWQ.out⟩
          · have hjk' : j = k := by omega
            subst hjk'
            clear hwq hgj hij hjk hjl hN hG hnb hgb
            by_cases h8 : G ≤ 8
            · have h8' : (G : Int) ≤ 8 := by omega
              by_cases hs : N < 2147483648
              · skip
                by_cases h255 : N ≤ 255
                · skip
                  go_wp2
                  ((try simp only [Exit.inBlock, Exit.then]); refine bodyPost_ret (results_tmp4 rfl _ _ _) rfl ?_)
                  exact num_hex88 HK.out HV.out HNN.out HGG.out (by first | (exact (i32_wrap m1 m2).symm) | (unfold i32; split <;> omega)) (by simp [h8, h255]) trivial HWQ.out
                · skip
                  go_wp2
                  ((try simp only [Exit.inBlock, Exit.then]); refine bodyPost_ret (results_tmp4 rfl _ _ _) rfl ?_)
                  exact num_hex88 HK.out HV.out HNN.out HGG.out (by first | (exact (i32_wrap m1 m2).symm) | (unfold i32; split <;> omega)) (by simp [h8, h255]) trivial HWQ.out
              · have hs' : 2147483648 ≤ N := by omega
                have h255 : ¬ N ≤ 255 := by omega
                go_wp2
                ((try simp only [Exit.inBlock, Exit.then]); refine bodyPost_ret (results_tmp4 rfl _ _ _) rfl ?_)
                exact num_hex88 HK.out HV.out HNN.out HGG.out (by first | (exact (i32_wrap m1 m2).symm) | (unfold i32; split <;> omega)) (by simp [h8, h255]) trivial HWQ.out
            
            · have h8' : ¬ (G : Int) ≤ 8 := by omega
              by_cases hs : N < 2147483648
              · skip
                by_cases h255 : N ≤ 255
                · skip
                  go_wp2
                  ((try simp only [Exit.inBlock, Exit.then]); refine bodyPost_ret (results_tmp4 rfl _ _ _) rfl ?_)
                  exact num_hex88 HK.out HV.out HNN.out HGG.out (by first | (exact (i32_wrap m1 m2).symm) | (unfold i32; split <;> omega)) (by simp [h8, h255]) trivial HWQ.out
                · skip
                  go_wp2
                  ((try simp only [Exit.inBlock, Exit.then]); refine bodyPost_ret (results_tmp4 rfl _ _ _) rfl ?_)
                  exact num_hex88 HK.out HV.out HNN.out HGG.out (by first | (exact (i32_wrap m1 m2).symm) | (unfold i32; split <;> omega)) (by simp [h8, h255]) trivial HWQ.out
              · have hs' : 2147483648 ≤ N := by omega
                have h255 : ¬ N ≤ 255 := by omega
                go_wp2
                ((try simp only [Exit.inBlock, Exit.then]); refine bodyPost_ret (results_tmp4 rfl _ _ _) rfl ?_)
                exact num_hex88 HK.out HV.out HNN.out HGG.out (by first | (exact (i32_wrap m1 m2).symm) | (unfold i32; split <;> omega)) (by simp [h8, h255]) trivial HWQ.out

end Go.Proofs.Ytdgiijidgjagbaa
