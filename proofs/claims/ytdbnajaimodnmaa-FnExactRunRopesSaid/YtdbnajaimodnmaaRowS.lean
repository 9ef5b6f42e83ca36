/- The frame of a law's row, for slices of ints among its arguments. No statement of the seat is proved here. -/
import Derived.Test.YtdbnajaimodnmaaRow
import Derived.Test.YtdbnajaimodnmaaWSized
import Derived.Test.YtdbnajaimodnmaaWWords
namespace Go.Proofs.Ytdbnajaimodnmaa
open Go.ChangeShapes Go.WideShapes Go.ChangeAt Go.RowKit Go.Proofs.YtdbnajaimodnmaaW.PrintWords
section
variable {H : Type} {enc : TypeId × Value → H} {P : Program} {W : World} {sp : Nat → Bool} {held : Bool}
theorem trodAll_at : ∀ {ts : List TypeId} {vs : List Value} {ds : List (DataW H)} {ps : List MemPlace} {j : Nat} {t : TypeId} {v : Value}, DataW.TrodAll enc P W 0 sp held ts vs ds ps → ts[j]? = some t → vs[j]? = some v →
    ∃ d q, ds[j]? = some d ∧ DataW.Trod enc P W 0 sp held t v d q
  | t :: ts, v :: vs, d :: ds, ps, 0, t', v', h, ht, hv => by
    obtain ⟨p, q, h1, h2, rfl⟩ := h
    simp only [List.getElem?_cons_zero, Option.some.injEq] at ht hv
    subst ht; subst hv
    exact ⟨d, p, rfl, h1⟩
  | t :: ts, v :: vs, d :: ds, ps, j + 1, t', v', h, ht, hv => by
    obtain ⟨p, q, h1, h2, rfl⟩ := h
    simp only [List.getElem?_cons_succ] at ht hv
    obtain ⟨d', q', h3, h4⟩ := trodAll_at h2 ht hv
    exact ⟨d', q', by simpa using h3, h4⟩
  | [], _, _, _, _, _, _, _, ht, _ => by simp at ht
  | _ :: _, [], _, _, _, _, _, _, _, hv => by simp at hv
  | _ :: _, _ :: _, [], _, _, _, _, h, _, _ => h.elim
/-- a slice of ints among the arguments -/
theorem open_slice_arg {base : Nat} {ts : List TypeId} {vs : List Value} {ds : List (DataW H)} {ps : List MemPlace} {j : Nat} {t e : TypeId} {v : Value} (hA : DataW.TrodAll enc P W 0 (fun _ => true) held ts vs ds ps) (hw : (DataW.weightsEach P ts ds).all (· ≤ reachBytes) = true)
    (ht : ts[j]? = some t) (hv : vs[j]? = some v) (hu : P.underlying t = some (.slice e)) (he : P.underlying e = some (.int .i64)) (hc : P.cellsOf e = 1) (hB : P.bytesOf e = 8) (hval : Value.okWide P W .any base t v) :
    ∃ (A : Option Addr) (cap : Nat) (l : List Int), v = .slice A l.length cap ∧ Kd.C (Kd.int .i64) W A l.length l ∧ l.length ≤ cap ∧ l.length * 8 ≤ 140737488351232 := by
  obtain ⟨a, len, cap, rfl⟩ := okWide_slice hu hval
  obtain ⟨d, q, hd, h⟩ := trodAll_at hA ht hv
  have y := sized_ints hw ht hd hu he hc hB h
  have z : ∃ zs : List Int, (a = none ∧ len = 0 ∧ cap = 0 ∧ zs = []) ∨ ∃ x, a = some x ∧ len ≤ cap ∧ cap ≤ maxLen ∧ zs.length = cap ∧ (∀ i, i < zs.length → W.cell? (x.add i) = some (.int .i64 (zs.getD i 0))) ∧ ∀ n ∈ zs, (Lit.int .i64 n).wf = true := by
    obtain ⟨fuel, hf⟩ := h
    rcases open_ints hu he hc hf with ⟨hcs, _⟩ | ⟨x, l, c, zs, hcs, _, hl, hm, hz, _, hcell, hwz⟩
    · simp [Value.cells] at hcs
      obtain ⟨rfl, rfl, rfl⟩ := hcs
      exact ⟨[], .inl ⟨rfl, rfl, rfl, rfl⟩⟩
    · simp [Value.cells] at hcs
      obtain ⟨rfl, rfl, rfl⟩ := hcs
      exact ⟨zs, .inr ⟨_, rfl, hl, hm, by simpa using hz, hcell, hwz⟩⟩
  obtain ⟨zs, z⟩ := z
  obtain ⟨l, rfl, hr, hm, hwf, hcap⟩ := ReadsInt.ofRowC z
  exact ⟨a, cap, l, rfl, Kd.C_of_reads (d := (0 : Int)) (h1 := fun _ => rfl) hr, hcap, y⟩
end
end Go.Proofs.Ytdbnajaimodnmaa
