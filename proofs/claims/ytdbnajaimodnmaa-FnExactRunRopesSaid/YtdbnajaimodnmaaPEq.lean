/- Plain laws of equal slices of ints. No statement of the seat is proved here. -/
import Derived.Test.YtdbnajaimodnmaaPEv
import Derived.Test.YtdbnajaimodnmaaQAll1
namespace Go.Proofs.Ytdbnajaimodnmaa
open Go.RowKit Go.Proofs.YtdbnajaimodnmaaW.PrintWords Go.Proofs.Ytdbnajaimodnmaa.QAll
set_option linter.unusedVariables false
set_option linter.unusedSimpArgs false
theorem wrapN {i n : Nat} (h : i < n) (hn : n ≤ 4611686018427387904) : wrap64 ((i : Int) + 1) = ((i + 1 : Nat) : Int) := by
  unfold wrap64; omega
theorem eqI_l0 (l : List Int) (hl : l.length ≤ 4611686018427387904) : ∀ (d k i : Nat), i + d = l.length → d < k → laws_eqIntS.l0 k l l (i : Int) = some true
  | 0, k, i, h, hk => by
    obtain ⟨k, rfl⟩ : ∃ m, k = m + 1 := ⟨k - 1, by omega⟩
    simp only [laws_eqIntS.l0]
    rw [if_neg (by omega)]
  | d + 1, k, i, h, hk => by
    obtain ⟨k, rfl⟩ : ∃ m, k = m + 1 := ⟨k - 1, by omega⟩
    simp only [laws_eqIntS.l0]
    rw [if_pos (by omega), if_pos (by omega), if_pos (by omega), if_pos trivial, wrapN (n := l.length) (by omega) hl]
    exact eqI_l0 l hl d k (i + 1) (by omega) (by omega)
theorem eqI_same (l : List Int) (hl : l.length ≤ 4611686018427387904) : Ev (fun k => laws_eqIntS.f k l l) true :=
  ev_at (l.length + 1) fun k hk => by
    unfold laws_eqIntS.f
    rw [if_pos rfl]
    exact eqI_l0 l hl l.length k 0 (by omega) (by omega)
end Go.Proofs.Ytdbnajaimodnmaa
