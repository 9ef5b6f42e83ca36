/- The frame of a law's row, for slices of arrays of three ints among its arguments. No statement of the seat is proved here. -/
import Derived.Test.YtdbnajaimodnmaaRowS
import Derived.Test.YtdbnajaimodnmaaQRo1
import Derived.Deep.Slices
import Derived.Laws.IdiomArrays
namespace Go.Proofs.Ytdbnajaimodnmaa
open Go.ChangeShapes Go.WideShapes Go.ChangeAt Go.RowKit Go.Deep Go.Proofs.YtdbnajaimodnmaaW.PrintWords Go.Proofs.Ytdbnajaimodnmaa.QRo
section
variable {H : Type} {enc : TypeId × Value → H} {P : Program} {W : World} {held : Bool}
theorem open_arr3s_arg {base : Nat} {ts : List TypeId} {vs : List Value} {ds : List (DataW H)} {ps : List MemPlace} {j : Nat} {t e i : TypeId} {v : Value} (hA : DataW.TrodAll enc P W 0 (fun _ => true) held ts vs ds ps) (hw : (DataW.weightsEach P ts ds).all (· ≤ reachBytes) = true)
    (ht : ts[j]? = some t) (hv : vs[j]? = some v) (hu : P.underlying t = some (.slice e)) (he : P.underlying e = some (.array 3 i)) (hi : P.underlying i = some (.int .i64)) (hce : P.cellsOf e = 3) (hci : P.cellsOf i = 1) (hB : P.bytesOf e = 24) (hval : Value.okWide P W .any base t v) :
    ∃ (A : Option Addr) (cap : Nat) (l : List S36), v = .slice A l.length cap ∧ Kd.C k36 W A l.length l ∧ l.length ≤ cap ∧ l.length * 24 ≤ 140737488351232 := by
  obtain ⟨a, len, cap, rfl⟩ := okWide_slice hu hval
  obtain ⟨d, q, hd, h⟩ := trodAll_at hA ht hv
  obtain ⟨fuel, hf⟩ := h
  rcases open_slice hu hf with ⟨hcs, _⟩ | ⟨x, n, c, m, nn, D, Pl, hcs, _, hl, hm, hmm, hx, hel⟩
  · simp [Value.cells] at hcs
    obtain ⟨rfl, rfl, rfl⟩ := hcs
    exact ⟨none, 0, [], rfl, ⟨rfl, by simp, fun h => absurd h (Nat.lt_irrefl 0)⟩, by simp, by simp⟩
  · simp [Value.cells] at hcs
    obtain ⟨rfl, rfl, rfl⟩ := hcs
    obtain ⟨hx, _⟩ := Prod.mk.inj hx
    subst hx
    have hmc : m = cap := by simpa using hmm
    have z := sized_slice hw ht hd hu
    rw [hB] at z
    have key : ∀ k, k < len → ∃ y : S36, W.cell? (x.add (k * 3)) = some (.int .i64 y.f0) ∧ W.cell? (x.add (k * 3 + 1)) = some (.int .i64 y.f1) ∧ W.cell? (x.add (k * 3 + 2)) = some (.int .i64 y.f2) := by
      intro k hk
      obtain ⟨cs, hc, htr⟩ := hel k (by omega)
      rw [hce] at hc
      obtain ⟨_, hcl, hat⟩ := World.cells?_some hc
      match cs, hcl with
      | [c0, c1, c2], _ =>
        obtain ⟨y0, y1, y2, n', _, h0, h1, h2⟩ := trod_array3 he hci htr
        obtain ⟨n0, e0, _⟩ := DataW.trod_int hi h0
        obtain ⟨n1, e1, _⟩ := DataW.trod_int hi h1
        obtain ⟨n2, e2, _⟩ := DataW.trod_int hi h2
        simp only [List.cons.injEq, and_true] at e0 e1 e2
        subst e0 e1 e2
        have a0 := hat 0 (by omega)
        have a1 := hat 1 (by omega)
        have a2 := hat 2 (by omega)
        rw [Go.Deep.add_add] at a0 a1 a2
        exact ⟨⟨n0, n1, n2⟩, by simpa using a0, by simpa using a1, by simpa using a2⟩
    obtain ⟨g, hg⟩ : ∃ g : Nat → S36, ∀ k, k < len → W.cell? (x.add (k * 3)) = some (.int .i64 (g k).f0) ∧ W.cell? (x.add (k * 3 + 1)) = some (.int .i64 (g k).f1) ∧ W.cell? (x.add (k * 3 + 2)) = some (.int .i64 (g k).f2) := by
      refine ⟨fun k => if h : k < len then (key k h).choose else z36, fun k hk => ?_⟩
      simp only [dif_pos hk]
      exact (key k hk).choose_spec
    have hlen : ((List.range len).map g).length = len := by simp
    refine ⟨some x, cap, (List.range len).map g, by rw [hlen], ?_, by rw [hlen]; exact hl, ?_⟩
    · rw [hlen]
      refine ⟨hlen, by unfold maxLen at hm; omega, fun _ => ⟨x, rfl, fun k y hk => ?_⟩⟩
      rw [List.getElem?_map, Option.map_eq_some_iff] at hk
      obtain ⟨k', hk', rfl⟩ := hk
      obtain ⟨hkl, e⟩ := List.getElem?_eq_some_iff.1 hk'
      rw [List.length_range] at hkl
      rw [List.getElem_range] at e
      subst e
      obtain ⟨h0, h1, h2⟩ := hg k hkl
      refine ⟨_, rfl, k36_mk W (g k), fun jj u hu => ?_⟩
      match jj, hu with
      | 0, hu => simp only [List.getElem?_cons_zero, Option.some.injEq] at hu; subst hu; exact h0
      | 1, hu => simp only [List.getElem?_cons_succ, List.getElem?_cons_zero, Option.some.injEq] at hu; subst hu; exact h1
      | 2, hu => simp only [List.getElem?_cons_succ, List.getElem?_cons_zero, Option.some.injEq] at hu; subst hu; exact h2
      | n + 3, hu => simp at hu
    · rw [hlen]
      simp at z
      unfold reachBytes at z
      omega
end
end Go.Proofs.Ytdbnajaimodnmaa
