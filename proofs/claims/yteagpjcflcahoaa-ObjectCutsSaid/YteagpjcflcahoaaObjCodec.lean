/- Plain: an object's bytes are read as it. No program in sight. -/
import Derived.Test.YteagpjcflcahoaaObjRefBytes
import Derived.Test.YteagpjcflcahoaaObjEq
namespace Go.Proofs.Yteagpjcflcahoaa
set_option linter.unusedVariables false
set_option linter.unusedSimpArgs false

def wordIn (most n : Int) : Prop := (0 ≤ n ∧ n < 4294967296) ∧ n ≤ most
def rMost (most : Int) (s : St) : Int × St := rCount most (rWord s)
theorem rMost_reads (most : Int) (h : 0 ≤ most) : Reads (rMost most) wordB (wordIn most) := rCount_reads rWord_reads most h
def rSmall (most : Int) (s : St) : Int × St := rCount most (rByte s)
theorem rSmall_reads (most : Int) (h : 0 ≤ most) : Reads (rSmall most) (fun n => [n % 256]) (fun n => isByte n ∧ n ≤ most) := rCount_reads rByte_reads most h
def rImp (s : St) : Imp × St := (⟨(rName 15 s).1, (rWord (rName 15 s).2).1⟩, (rWord (rName 15 s).2).2)
theorem rImp_reads : Reads rImp impB (fun x => (x.name.size : Int) ≤ 15 ∧ 0 ≤ x.key ∧ x.key < 4294967296) :=
  (Reads.pair (rName_reads 15 (by decide) (by decide)) rWord_reads).map (fun x => (⟨x.1, x.2⟩ : Imp)) (fun y => (y.name, y.key)) (fun y => rfl) (fun x => rfl)
def rFix (s : St) : Fix × St := (⟨(rMost 16384 s).1, (rByte (rMost 16384 s).2).1, (rByte (rByte (rMost 16384 s).2).2).1⟩, (rByte (rByte (rMost 16384 s).2).2).2)
theorem rFix_reads : Reads rFix fixB (fun f => wordIn 16384 f.place ∧ isByte f.mod ∧ isByte f.entry) :=
  (Reads.pair (rMost_reads 16384 (by decide)) (Reads.pair rByte_reads rByte_reads)).map (fun x => (⟨x.1, x.2.1, x.2.2⟩ : Fix)) (fun y => (y.place, y.mod, y.entry)) (fun y => rfl) (fun x => rfl)

def rImps (s : St) : List Imp × St := rLoop rImp (rSmall 12 s).1.toNat (rSmall 12 s).2
def rText (s : St) : List Int × St := rSome (rMost 8192 s).1.toNat (rMost 8192 s).2
def rCode (s : St) : List Int × St := rLoop rWord (rMost 16384 s).1.toNat (rMost 16384 s).2
def rEnts (s : St) : List Int × St := rLoop (rMost 16384) (rByte s).1.toNat (rByte s).2
def rFixs (s : St) : List Fix × St := rLoop rFix (rMost 8192 s).1.toNat (rMost 8192 s).2
theorem rImps_reads : Reads rImps (fun l => [(l.length : Int) % 256] ++ l.flatMap impB) (fun (l : List Imp) => (isByte l.length ∧ (l.length : Int) ≤ 12) ∧ ∀ x ∈ l, (x.name.size : Int) ≤ 15 ∧ 0 ≤ x.key ∧ x.key < 4294967296) :=
  Reads.counted (len := List.length) (ok := fun _ (l : List Imp) => ∀ x ∈ l, (x.name.size : Int) ≤ 15 ∧ 0 ≤ x.key ∧ x.key < 4294967296) (rSmall_reads 12 (by decide)) (fun n h => h.1.1) (fun n => rLoop_reads rImp_reads n)
theorem rText_reads : Reads rText (fun l => wordB l.length ++ l) (fun l => wordIn 8192 l.length ∧ ∀ x ∈ l, isByte x) :=
  Reads.counted (len := List.length) (ok := fun _ (l : List Int) => ∀ x ∈ l, isByte x) (rMost_reads 8192 (by decide)) (fun n h => h.1.1) (fun n => rSome_reads n)
theorem rCode_reads : Reads rCode (fun l => wordB l.length ++ l.flatMap wordB) (fun l => wordIn 16384 l.length ∧ ∀ x ∈ l, 0 ≤ x ∧ x < 4294967296) :=
  Reads.counted (len := List.length) (ok := fun _ (l : List Int) => ∀ x ∈ l, 0 ≤ x ∧ x < 4294967296) (rMost_reads 16384 (by decide)) (fun n h => h.1.1) (fun n => rLoop_reads rWord_reads n)
theorem rEnts_reads : Reads rEnts (fun l => [(l.length : Int) % 256] ++ l.flatMap wordB) (fun l => isByte l.length ∧ ∀ x ∈ l, wordIn 16384 x) :=
  Reads.counted (len := List.length) (ok := fun _ (l : List Int) => ∀ x ∈ l, wordIn 16384 x) rByte_reads (fun n h => h.1) (fun n => rLoop_reads (rMost_reads 16384 (by decide)) n)
theorem rFixs_reads : Reads rFixs (fun l => wordB l.length ++ l.flatMap fixB) (fun (l : List Fix) => wordIn 8192 l.length ∧ ∀ x ∈ l, wordIn 16384 x.place ∧ isByte x.mod ∧ isByte x.entry) :=
  Reads.counted (len := List.length) (ok := fun _ (l : List Fix) => ∀ x ∈ l, wordIn 16384 x.place ∧ isByte x.mod ∧ isByte x.entry) (rMost_reads 8192 (by decide)) (fun n h => h.1.1) (fun n => rLoop_reads rFix_reads n)

/-- what an object's bytes behind the first two ones hold. -/
def OD.rest (o : OD) : List Int := nameB o.name ++ (wordB o.key ++ (([(o.imps.length : Int) % 256] ++ o.imps.flatMap impB) ++ (wordB o.vars ++ ((wordB o.text.length ++ o.text) ++ ((wordB o.code.length ++ o.code.flatMap wordB) ++ (([(o.entries.length : Int) % 256] ++ o.entries.flatMap wordB) ++ (wordB o.fixups.length ++ o.fixups.flatMap fixB)))))))
theorem OD.bytes_rest (o : OD) : o.bytes = [79, 49] ++ o.rest := by unfold OD.bytes OD.rest; simp only [List.append_assoc]
structure OD.In (o : OD) : Prop where
  name : (o.name.size : Int) ≤ 15
  key : 0 ≤ o.key ∧ o.key < 4294967296
  imps : (isByte o.imps.length ∧ (o.imps.length : Int) ≤ 12) ∧ ∀ x ∈ o.imps, (x.name.size : Int) ≤ 15 ∧ 0 ≤ x.key ∧ x.key < 4294967296
  vars : wordIn 262144 o.vars
  text : wordIn 8192 o.text.length ∧ ∀ x ∈ o.text, isByte x
  code : wordIn 16384 o.code.length ∧ ∀ x ∈ o.code, 0 ≤ x ∧ x < 4294967296
  ents : isByte o.entries.length ∧ ∀ x ∈ o.entries, wordIn 16384 x
  fixs : wordIn 8192 o.fixups.length ∧ ∀ x ∈ o.fixups, wordIn 16384 x.place ∧ isByte x.mod ∧ isByte x.entry
def odOf (x : ByteArray × Int × List Imp × Int × List Int × List Int × List Int × List Fix) : OD := ⟨x.1, x.2.1, x.2.2.1, x.2.2.2.1, x.2.2.2.2.1, x.2.2.2.2.2.1, x.2.2.2.2.2.2.1, x.2.2.2.2.2.2.2⟩
def ofOd (o : OD) : ByteArray × Int × List Imp × Int × List Int × List Int × List Int × List Fix := (o.name, o.key, o.imps, o.vars, o.text, o.code, o.entries, o.fixups)
def rPair {α β : Type} (f : St → α × St) (g : St → β × St) (s : St) : (α × β) × St := (((f s).1, (g (f s).2).1), (g (f s).2).2)
theorem rPair_reads {α β : Type} {f : St → α × St} {g : St → β × St} {e1 : α → List Int} {e2 : β → List Int} {o1 : α → Prop} {o2 : β → Prop} (hf : Reads f e1 o1) (hg : Reads g e2 o2) : Reads (rPair f g) (fun x => e1 x.1 ++ e2 x.2) (fun x => o1 x.1 ∧ o2 x.2) := Reads.pair hf hg
def rAll := rPair (rName 15) (rPair rWord (rPair rImps (rPair (rMost 262144) (rPair rText (rPair rCode (rPair rEnts rFixs))))))
def rBody (s : St) : OD × St := (odOf (rAll s).1, (rAll s).2)
theorem rAll_reads : Reads rAll (fun x => nameB x.1 ++ (wordB x.2.1 ++ (([(x.2.2.1.length : Int) % 256] ++ x.2.2.1.flatMap impB) ++ (wordB x.2.2.2.1 ++ ((wordB x.2.2.2.2.1.length ++ x.2.2.2.2.1) ++ ((wordB x.2.2.2.2.2.1.length ++ x.2.2.2.2.2.1.flatMap wordB) ++ (([(x.2.2.2.2.2.2.1.length : Int) % 256] ++ x.2.2.2.2.2.2.1.flatMap wordB) ++ (wordB x.2.2.2.2.2.2.2.length ++ x.2.2.2.2.2.2.2.flatMap fixB))))))))
    (fun x => (x.1.size : Int) ≤ 15 ∧ (0 ≤ x.2.1 ∧ x.2.1 < 4294967296) ∧ ((isByte x.2.2.1.length ∧ (x.2.2.1.length : Int) ≤ 12) ∧ ∀ y ∈ x.2.2.1, (y.name.size : Int) ≤ 15 ∧ 0 ≤ y.key ∧ y.key < 4294967296) ∧ wordIn 262144 x.2.2.2.1 ∧ (wordIn 8192 x.2.2.2.2.1.length ∧ ∀ y ∈ x.2.2.2.2.1, isByte y) ∧
      (wordIn 16384 x.2.2.2.2.2.1.length ∧ ∀ y ∈ x.2.2.2.2.2.1, 0 ≤ y ∧ y < 4294967296) ∧ (isByte x.2.2.2.2.2.2.1.length ∧ ∀ y ∈ x.2.2.2.2.2.2.1, wordIn 16384 y) ∧ (wordIn 8192 x.2.2.2.2.2.2.2.length ∧ ∀ y ∈ x.2.2.2.2.2.2.2, wordIn 16384 y.place ∧ isByte y.mod ∧ isByte y.entry)) := rPair_reads (rName_reads 15 (by decide) (by decide)) (rPair_reads rWord_reads (rPair_reads rImps_reads (rPair_reads (rMost_reads 262144 (by decide)) (rPair_reads rText_reads (rPair_reads rCode_reads (rPair_reads rEnts_reads rFixs_reads))))))
theorem rBody_reads : Reads rBody OD.rest OD.In := by
  have h := (rAll_reads).map odOf ofOd (fun y => rfl) (fun x => rfl)
  exact ⟨fun x r hx => h.full x r ⟨hx.name, hx.key, hx.imps, hx.vars, hx.text, hx.code, hx.ents, hx.fixs⟩, fun b x r hb e => by
    obtain ⟨h1, h2, h3, h4, h5, h6, h7, h8, h9⟩ := h.sound b x r hb e
    exact ⟨h1, ⟨h2, h3, h4, h5, h6, h7, h8, h9⟩⟩, h.bad⟩

theorem OD.In.of {x : Obj} {w : World} (h : x.Rd w) (hm : mayObj x.d = true) : x.d.In := by
  have hf := Fits.of hm
  have a1 : (x.d.imps.length : Int) ≤ 12 := by have := hf.nimps; omega
  have a2 : (x.d.text.length : Int) ≤ 8192 := by have := hf.text; omega
  have a3 : (x.d.code.length : Int) ≤ 16384 := by have := hf.code; omega
  have a4 : (x.d.entries.length : Int) ≤ 201 := by have := hf.nent; omega
  have a5 : (x.d.fixups.length : Int) ≤ 8192 := by have := hf.nfix; omega
  refine ⟨by have := hf.name; omega, h.key, ⟨⟨⟨by omega, by omega⟩, a1⟩, fun y hy => ⟨by have := hf.imps y hy; omega, (h.imps.all y hy).2⟩⟩, ⟨⟨hf.vars.1, by have := hf.vars.2; omega⟩, hf.vars.2⟩, ⟨⟨⟨by omega, by omega⟩, a2⟩, fun y hy => bd_u8 (h.text.all y hy)⟩,
    ⟨⟨⟨by omega, by omega⟩, a3⟩, fun y hy => bd_u32 (h.code.all y hy)⟩, ⟨⟨by omega, by omega⟩, fun y hy => by have := hf.ent y hy; exact ⟨⟨this.1, by omega⟩, this.2⟩⟩, ⟨⟨⟨by omega, by omega⟩, a5⟩, fun y hy => ?_⟩⟩
  obtain ⟨⟨p1, p2⟩, ⟨m1, m2⟩, ⟨e1, e2⟩⟩ := hf.fix y hy
  exact ⟨⟨⟨p1, by omega⟩, p2⟩, ⟨m1, by omega⟩, ⟨e1, by omega⟩⟩
/-- unlike objects have unlike bytes. -/
theorem OD.In.inj {x y : OD} (hx : x.In) (hy : y.In) (h : x.bytes = y.bytes) : x = y := by
  rw [x.bytes_rest, y.bytes_rest] at h
  have h2 : x.rest = y.rest := List.append_cancel_left h
  have h3 := rBody_reads.full x [] hx
  have h4 := rBody_reads.full y [] hy
  rw [h2, h4] at h3
  exact (Prod.mk.inj h3).1.symm
end Go.Proofs.Yteagpjcflcahoaa
