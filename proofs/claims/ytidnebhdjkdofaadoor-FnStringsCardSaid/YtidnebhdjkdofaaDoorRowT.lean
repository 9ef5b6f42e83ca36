/- The frame of a law's row, for strings and slices of strings among its arguments. No statement of the seat is proved here. -/
import Derived.Test.YtidnebhdjkdofaaDoorRowS
import Derived.SliceStrings
import Derived.ChangeMaps5
namespace Go.Proofs.YtidnebhdjkdofaaDoor
open Go.ChangeShapes Go.WideShapes Go.ChangeAt Go.RowKit Go.Proofs.YtidnebhdjkdofaaDoorW.PrintWords
section
variable {H : Type} {enc : TypeId × Value → H} {P : Program} {W : World} {held : Bool}
theorem open_str_arg {base : Nat} {ts : List TypeId} {vs : List Value} {ds : List (DataW H)} {ps : List MemPlace} {j : Nat} {t : TypeId} {v : Value} (hA : DataW.TrodAll enc P W 0 (fun _ => true) held ts vs ds ps)
    (ht : ts[j]? = some t) (hv : vs[j]? = some v) (hu : P.underlying t = some .string) (hval : Value.okWide P W .any base t v) : ∃ s : ByteArray, v = .string s ∧ s.size ≤ maxLen := by
  obtain ⟨d, q, hd, h⟩ := trodAll_at hA ht hv
  obtain ⟨s, rfl, _, _, hs⟩ := ChangeMaps.open_string hu hval h
  exact ⟨s, rfl, hs⟩
theorem open_strs_arg {base : Nat} {ts : List TypeId} {vs : List Value} {ds : List (DataW H)} {ps : List MemPlace} {j : Nat} {t e : TypeId} {v : Value} (hA : DataW.TrodAll enc P W 0 (fun _ => true) held ts vs ds ps)
    (ht : ts[j]? = some t) (hv : vs[j]? = some v) (hu : P.underlying t = some (.slice e)) (he : P.underlying e = some .string) (hc : P.cellsOf e = 1) (hval : Value.okWide P W .any base t v) :
    ∃ (A : Option Addr) (cap : Nat) (l : List ByteArray), v = .slice A l.length cap ∧ Kd.C Kd.string W A l.length l ∧ l.length ≤ cap ∧ l.length ≤ maxLen ∧ ∀ s ∈ l, s.size ≤ maxLen := by
  obtain ⟨a, len, cap, rfl⟩ := okWide_slice hu hval
  obtain ⟨d, q, hd, h⟩ := trodAll_at hA ht hv
  obtain ⟨fuel, hf⟩ := h
  rcases open_strings hu he hc hf with ⟨hcs, _⟩ | ⟨x, l, c, ss, hcs, _, hl, hm, hz, _, hcell, hsz⟩
  · simp [Value.cells] at hcs
    obtain ⟨rfl, rfl, rfl⟩ := hcs
    exact ⟨none, 0, [], rfl, Kd.C_of_reads (d := ByteArray.empty) (h1 := fun _ => rfl) ⟨rfl, by simp, fun h => absurd h (Nat.lt_irrefl 0)⟩, by simp, by simp, by simp⟩
  · simp [Value.cells] at hcs
    obtain ⟨rfl, rfl, rfl⟩ := hcs
    simp only [if_true] at hz
    have hlen : (ss.take len).length = len := by rw [List.length_take]; omega
    refine ⟨some x, cap, ss.take len, by rw [hlen], ?_, by rw [hlen]; exact hl, by rw [hlen]; omega, fun s hs => hsz s (List.mem_of_mem_take hs)⟩
    refine Kd.C_of_reads (d := ByteArray.empty) (h1 := fun _ => rfl) ⟨rfl, by rw [hlen]; unfold maxLen at hm; omega, fun _ => ⟨x, rfl, fun j hj => ?_⟩⟩
    rw [hlen] at hj
    have := hcell j (by omega)
    rw [this]
    simp [List.getD_eq_getElem?_getD, hj]
end
end Go.Proofs.YtidnebhdjkdofaaDoor
