/- Contract: the sets of a kit. No statement of the seat is proved here. -/
import Derived.Test.YtlhodfjdmafapaaPLev
import Derived.Test.YtlhodfjdmafapaaWLast
import Derived.Test.YtlhodfjdmafapaaQIm1
namespace Go.Proofs.Ytlhodfjdmafapaa
open Go.RowKit Go.Proofs.YtlhodfjdmafapaaW.PrintWords Go.Proofs.YtlhodfjdmafapaaW.PrintLast Go.Proofs.Ytlhodfjdmafapaa.QIm
set_option linter.unusedVariables false
set_option linter.unusedSimpArgs false
theorem sets_l0 (k : Nat → Int) : ∀ (d i : Nat) (acc : List Int), i + d = 16 → acc.length ≤ i → impl_Kit_sets.l0 (d + 1) acc (i : Int) (k 0) (k 1) (k 2) (k 3) = some (acc ++ ((List.range' i d).map fun (j : Nat) => (j : Int)).filter (isSetB k))
  | 0, i, acc, h, ha => by
    simp only [impl_Kit_sets.l0]
    rw [if_neg (by omega)]
    simp
  | d + 1, i, acc, h, ha => by
    have hs : xIsSet.f (k 0) (k 1) (k 2) (k 3) (i : Int) = some (isSetB k (i : Int)) := rfl
    have hw : wrap64 ((i : Int) + 1) = ((i + 1 : Nat) : Int) := by unfold wrap64; omega
    rw [impl_Kit_sets.l0, if_pos (by omega), hs, Option.bind_some]
    cases hb : isSetB k (i : Int)
    · rw [if_neg (by simp), hw, sets_l0 k d (i + 1) acc (by omega) (by omega)]
      simp [List.range'_succ, hb]
    · rw [if_pos rfl, if_pos (by omega), hw, sets_l0 k d (i + 1) (acc ++ [(i : Int)]) (by omega) (by simp; omega)]
      simp [List.range'_succ, hb]
theorem sets_f (k : Nat → Int) : impl_Kit_sets.f 17 (k 0) (k 1) (k 2) (k 3) = some (setsL k) := by
  have := sets_l0 k 16 0 [] (by omega) (by simp)
  unfold impl_Kit_sets.f
  rw [show (0 : Int) = ((0 : Nat) : Int) from rfl, this]
  simp only [setsL, List.range_eq_range', List.nil_append]
theorem sets_any (k : Nat → Int) (w : World) : Calls Try.prog 65 #[A4 k] w fun e w' => ∃ v0 : Value, e = .returned v0 ∧ Kd.R (Kd.int .i64) 3 w' w.heap.size (fun _ => True) v0 (setsL k) ∧ Below w.heap.size w w' :=
  impl_Kit_sets.calls 17 (k 0) (k 1) (k 2) (k 3) (setsL k) w (sets_f k)
theorem sand_good {k : Nat → Int} {s : Sd} (h : Sand k (fn4 s)) : good4 s :=
  ⟨⟨h.lo 0 (by omega), Int.le_trans (h.hi 0 (by omega)) (h.top 0 (by omega))⟩, ⟨h.lo 1 (by omega), Int.le_trans (h.hi 1 (by omega)) (h.top 1 (by omega))⟩, ⟨h.lo 2 (by omega), Int.le_trans (h.hi 2 (by omega)) (h.top 2 (by omega))⟩, ⟨h.lo 3 (by omega), Int.le_trans (h.hi 3 (by omega)) (h.top 3 (by omega))⟩⟩
theorem MapKd.own_tight {P : Program} {k : TypeId} {α β : Type} {M : MapKd P k α β} {w : World} {b n : Nat} {L : List (α × β)} (h : M.own w b n L) : M.own w b L.length L := by
  obtain ⟨D, ⟨es, clock, hb, F, hs, hD⟩, h2⟩ := h
  have h1 : w.ownsMap P k rdV b es.size D := ⟨es, clock, hb, F, Nat.le_refl _, hD⟩
  have e : Maps.size D = es.size := by
    rw [hD]
    simp [Maps.size, length_sorted]
  rw [h2.size] at e
  exact ⟨D, e ▸ h1, h2⟩
theorem R_at {α : Type} {d : Kd α} {e base : Nat} {ok : Nat → Prop} {w : World} {v : Value} {xs : List α} (h : Kd.R d e w base ok v xs) : ∃ n, n = base ∧ Kd.R d e w n ok v xs := ⟨_, rfl, h⟩
end Go.Proofs.Ytlhodfjdmafapaa
