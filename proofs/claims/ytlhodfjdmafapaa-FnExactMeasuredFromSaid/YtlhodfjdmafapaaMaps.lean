/- Kinds of maps: keyed by four ints, keyed by four ints and a time. No statement of the seat is proved here. -/
import Derived.Test.YtlhodfjdmafapaaOMap
import Derived.Test.YtlhodfjdmafapaaExt
import Derived.Test.YtlhodfjdmafapaaRow
import Derived.WideKeyArr
import Derived.DeepKeys4
import Derived.Test.YtlhodfjdmafapaaProg
namespace Go.Proofs.Ytlhodfjdmafapaa
open Go.WideMaps (ArrKey)
open Go.RowKit Go.Maps
set_option linter.unusedVariables false
set_option linter.unusedSimpArgs false
abbrev Sd : Type := Int × Int × Int × Int
def fn4 (x : Sd) : Nat → Int := v4 x.1 x.2.1 x.2.2.1 x.2.2.2
def tup4 (g : Nat → Int) : Sd := (g 0, g 1, g 2, g 3)
theorem A4_fn4 (g : Nat → Int) : A4 (fn4 (tup4 g)) = A4 g := rfl
theorem tup4_fn4 (x : Sd) : tup4 (fn4 x) = x := rfl
def good4 (s : Sd) : Prop := (0 ≤ s.1 ∧ s.1 ≤ 30) ∧ (0 ≤ s.2.1 ∧ s.2.1 ≤ 30) ∧ (0 ≤ s.2.2.1 ∧ s.2.2.1 ≤ 30) ∧ (0 ≤ s.2.2.2 ∧ s.2.2.2 ≤ 30)
theorem keyLits4 {P : Program} {k e : TypeId} {q : IntKind} (A : ArrKey P k e 4) (he : P.underlying e = some (.int q)) (m : Nat) {a b c d : Int} (wa : (Lit.int q a).wf = true) (wb : (Lit.int q b).wf = true) (wc : (Lit.int q c).wf = true) (wd : (Lit.int q d).wf = true) :
    P.keyLits (m + 2) k [.int q a, .int q b, .int q c, .int q d] = some [.int q a, .int q b, .int q c, .int q d] := by
  unfold Program.keyLits
  simp only [A.hu]
  rw [if_pos (by rw [A.size]; rfl), show List.range 4 = [0, 1, 2, 3] from rfl, List.mapM_cons, List.mapM_cons, List.mapM_cons, List.mapM_cons, List.mapM_nil]
  simp [A.one, Program.keyLits, he, wa, wb, wc, wd]
theorem arr4 : ArrKey Try.prog 22 3 4 := ⟨Try.underlying22, by kernel_rfl, by kernel_rfl, by kernel_rfl⟩
theorem law4 : Keyed Try.prog 22 := Keyed.of_law arr4.law
theorem size4 : ∃ m, (Try.prog).types.size + 1 = m + 3 := ⟨(Try.prog).types.size - 2, by kernel_rfl⟩
def lits4 (s : Sd) : List Lit := [.int .i64 s.1, .int .i64 s.2.1, .int .i64 s.2.2.1, .int .i64 s.2.2.2]
theorem wf30 {a : Int} (h : 0 ≤ a ∧ a ≤ 30) : (Lit.int .i64 a).wf = true := WalkArith.wf_i64 (by omega)
theorem keyOf4 {s : Sd} (h : good4 s) : keyOf Try.prog 22 (A4 (fn4 s)) = some (.string (keyBytes (lits4 s))) := by
  obtain ⟨m, hm⟩ := size4
  unfold keyOf
  simp only [Try.underlying22]
  rw [if_pos (by rw [show Program.keyType Try.prog 22 = true by kernel_rfl]; simp [Value.formed, Try.underlying22, arr4.size]), hm]
  show Option.map _ (Program.keyLits _ (m + 1 + 2) _ [.int .i64 s.1, .int .i64 s.2.1, .int .i64 s.2.2.1, .int .i64 s.2.2.2]) = _
  rw [keyLits4 arr4 Try.underlying3 (m + 1) (wf30 h.1) (wf30 h.2.1) (wf30 h.2.2.1) (wf30 h.2.2.2)]
  rfl
/-- maps keyed by sands -/
def mk4 {β : Type} (eV : β → Value) (vinj : ∀ a b, eV a = eV b → a = b) : MapKd Try.prog 22 Sd β where
  eK := fun s => A4 (fn4 s)
  lK := fun s => .string (keyBytes (lits4 s))
  good := good4
  eV := eV
  law := law4
  key := fun _ h => keyOf4 h
  inj := fun x y hx hy e => by
    have := law4.inj (keyOf4 hx) (e ▸ keyOf4 hy)
    obtain ⟨x0, x1, x2, x3⟩ := x
    obtain ⟨y0, y1, y2, y3⟩ := y
    simpa [A4, fn4, v4] using this
  vinj := vinj
theorem lawSp : Keyed Try.prog 125 := Keyed.of_law (deep_law_laid laidOut (m := 3) (by decide) (of_decide_eq_true (by kernel_rfl)) (by kernel_rfl) (by kernel_rfl))
def ASp (x : Sd × Int) : Value := .agg #[.int .i64 x.1.1, .int .i64 x.1.2.1, .int .i64 x.1.2.2.1, .int .i64 x.1.2.2.2, .int .i64 x.2]
def goodSp (x : Sd × Int) : Prop := good4 x.1 ∧ 0 ≤ x.2 ∧ x.2 ≤ 1000000
theorem cells4 : Program.cellsOf Try.prog 22 = 4 := arr4.size
theorem cells1 : Program.cellsOf Try.prog 3 = 1 := arr4.one
theorem cells5 : Program.cellsOf Try.prog 125 = 5 := by kernel_rfl
theorem keyOfSp {x : Sd × Int} (h : goodSp x) : keyOf Try.prog 125 (ASp x) = some (.string (keyBytes (lits4 x.1 ++ [.int .i64 x.2]))) := by
  obtain ⟨m, hm⟩ := size4
  have hk := keyLits4 arr4 Try.underlying3 m (wf30 h.1.1) (wf30 h.1.2.1) (wf30 h.1.2.2.1) (wf30 h.1.2.2.2)
  have ht : Program.keyLits Try.prog (m + 2) 3 [.int .i64 x.2] = some [.int .i64 x.2] := by
    unfold Program.keyLits
    simp only [Try.underlying3]
    rw [if_pos ⟨trivial, WalkArith.wf_i64 (by have := h.2; omega)⟩]
  unfold keyOf
  simp only [Try.underlying125]
  rw [if_pos (by rw [show Program.keyType Try.prog 125 = true by kernel_rfl]; simp [ASp, Value.formed, Try.underlying125, cells5]), hm]
  show Option.map _ (Program.keyLits _ (m + 1 + 1 + 1) _ [.int .i64 x.1.1, .int .i64 x.1.2.1, .int .i64 x.1.2.2.1, .int .i64 x.1.2.2.2, .int .i64 x.2]) = _
  unfold Program.keyLits
  simp only [Try.underlying125]
  rw [if_pos ⟨by rw [cells5]; rfl, by kernel_rfl⟩]
  simp only [List.mapM_cons, List.mapM_nil, cells4, cells1, List.drop_zero, List.take, List.drop, Nat.zero_mul]
  rw [show m + 1 + 1 = m + 2 from rfl, hk, ht]
  rfl
/-- maps keyed by spots -/
def mkSp {β : Type} (eV : β → Value) (vinj : ∀ a b, eV a = eV b → a = b) : MapKd Try.prog 125 (Sd × Int) β where
  eK := ASp
  lK := fun x => .string (keyBytes (lits4 x.1 ++ [.int .i64 x.2]))
  good := goodSp
  eV := eV
  law := lawSp
  key := fun _ h => keyOfSp h
  inj := fun x y hx hy e => by
    have := lawSp.inj (keyOfSp hx) (e ▸ keyOfSp hy)
    obtain ⟨⟨x0, x1, x2, x3⟩, x4⟩ := x
    obtain ⟨⟨y0, y1, y2, y3⟩, y4⟩ := y
    simpa [ASp, and_assoc] using this
  vinj := vinj
def AWk (x : Int × Int) : Value := .agg #[.int .i64 x.1, .int .i64 x.2]
def MW : MapKd Try.prog 125 (Sd × Int) (Int × Int) := mkSp AWk (fun a b e => by
  obtain ⟨a0, a1⟩ := a
  obtain ⟨b0, b1⟩ := b
  simpa [AWk] using e)
end Go.Proofs.Ytlhodfjdmafapaa
