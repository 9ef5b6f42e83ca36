/- Plain laws of the small functions on slices of ints: compared with itself, marked, held. No statement of the seat is proved here. -/
import Derived.Test.YtekbfekghheejaaPEv
import Derived.Test.YtekbfekghheejaaQAll2
namespace Go.Proofs.Ytekbfekghheejaa
open Go.RowKit Go.Proofs.YtekbfekghheejaaW.PrintWords Go.Proofs.YtekbfekghheejaaW.PrintLast Go.Proofs.Ytekbfekghheejaa.QAll
set_option linter.unusedVariables false
set_option linter.unusedSimpArgs false
theorem wrap_nat {i n : Nat} (h : i < n) (hn : n ≤ 4611686018427387904) : wrap64 ((i : Int) + 1) = ((i + 1 : Nat) : Int) := by
  unfold wrap64; omega
theorem wrap_in {n : Int} (h : -9223372036854775808 ≤ n ∧ n ≤ 9223372036854775807) : wrap64 n = n := by unfold wrap64; omega
theorem eqInts_l0 (l : List Int) (hl : l.length ≤ 4611686018427387904) : ∀ (d k i : Nat), i + d = l.length → d < k → laws_eqIntS.l0 k l l (i : Int) = some true
  | 0, k, i, h, hk => by
    obtain ⟨k, rfl⟩ : ∃ m, k = m + 1 := ⟨k - 1, by omega⟩
    simp only [laws_eqIntS.l0]
    rw [if_neg (by omega)]
  | d + 1, k, i, h, hk => by
    obtain ⟨k, rfl⟩ : ∃ m, k = m + 1 := ⟨k - 1, by omega⟩
    simp only [laws_eqIntS.l0]
    rw [if_pos (by omega), if_pos (by omega), if_pos (by omega), if_pos trivial, wrap_nat (n := l.length) (by omega) hl]
    exact eqInts_l0 l hl d k (i + 1) (by omega) (by omega)
theorem eqInts_same (l : List Int) (hl : l.length ≤ 4611686018427387904) : Ev (fun k => laws_eqIntS.f k l l) true :=
  ev_at (l.length + 1) fun k hk => by
    unfold laws_eqIntS.f
    rw [if_pos rfl]
    exact eqInts_l0 l hl l.length k 0 (by omega) (by omega)
theorem markInts_l0 : ∀ (d k i : Nat) (l : List Int) (c : Int), l.length ≤ 4611686018427387904 → 0 ≤ c → c + d ≤ 9223372036854775807 → i + d = l.length → d < k →
    ∃ l', laws_markIntS.l0 k l c (i : Int) = some (c + d, l') ∧ l'.length = l.length ∧ (∀ j, j < i → l'.getD j 0 = l.getD j 0) ∧ ∀ j, i ≤ j → j < l.length → l'.getD j 0 = c + ((j - i : Nat) : Int)
  | 0, k, i, l, c, hl, hc, hb, h, hk => by
    obtain ⟨k, rfl⟩ : ∃ m, k = m + 1 := ⟨k - 1, by omega⟩
    refine ⟨l, ?_, rfl, fun _ _ => rfl, fun j h1 h2 => by omega⟩
    simp only [laws_markIntS.l0]
    rw [if_neg (by omega)]; simp
  | d + 1, k, i, l, c, hl, hc, hb, h, hk => by
    obtain ⟨k, rfl⟩ : ∃ m, k = m + 1 := ⟨k - 1, by omega⟩
    obtain ⟨l', e, h1, h2, h3⟩ := markInts_l0 d k (i + 1) (l.set i c) (c + 1) (by simpa using hl) (by omega) (by omega) (by simp; omega) (by omega)
    refine ⟨l', ?_, by simpa using h1, fun j hj => ?_, fun j hj hj2 => ?_⟩
    · simp only [laws_markIntS.l0]
      rw [if_pos (by omega), if_pos (by omega), wrap_nat (n := l.length) (by omega) hl, wrap_in ⟨by omega, by omega⟩, Int.toNat_natCast, e]
      simp; omega
    · rw [h2 j (by omega)]
      simp [List.getD_eq_getElem?_getD, List.getElem?_set, show ¬ i = j by omega]
    · by_cases q : j = i
      · subst q
        rw [h2 j (by omega)]
        simp [List.getD_eq_getElem?_getD, List.getElem?_set, show j < l.length by omega]
      · rw [h3 j (by omega) (by simpa using hj2)]
        omega
theorem heldInts_l0 (l : List Int) (hl : l.length ≤ 4611686018427387904) : ∀ (d k i : Nat) (c : Int), 0 ≤ c → c + d ≤ 9223372036854775807 → i + d = l.length → d < k → (∀ j, i ≤ j → j < l.length → l.getD j 0 = c + ((j - i : Nat) : Int)) →
    laws_heldIntS.l0 k l c (i : Int) = some (c + d)
  | 0, k, i, c, hc, hb, h, hk, hv => by
    obtain ⟨k, rfl⟩ : ∃ m, k = m + 1 := ⟨k - 1, by omega⟩
    simp only [laws_heldIntS.l0]
    rw [if_neg (by omega)]; simp
  | d + 1, k, i, c, hc, hb, h, hk, hv => by
    obtain ⟨k, rfl⟩ : ∃ m, k = m + 1 := ⟨k - 1, by omega⟩
    have hi := hv i (Nat.le_refl _) (by omega)
    simp only [laws_heldIntS.l0]
    rw [if_pos (by omega), if_pos (by omega), if_pos (by show l.getD (i : Int).toNat 0 = c; rw [Int.toNat_natCast, hi]; simp), wrap_nat (n := l.length) (by omega) hl, wrap_in ⟨by omega, by omega⟩, heldInts_l0 l hl d k (i + 1) (c + 1) (by omega) (by omega) (by omega) (by omega) (fun j h1 h2 => by rw [hv j (by omega) h2]; omega)]
    simp; omega
/-- marked from 1 on: the list is one that is held -/
theorem markInts (l : List Int) (hl : l.length ≤ 4611686018427387904) : ∃ l', l'.length = l.length ∧ Ev (fun k => laws_markIntS.f k l 1) (1 + (l.length : Int), l') ∧ Ev (fun k => laws_heldIntS.f k l' 1) (1 + (l.length : Int)) := by
  obtain ⟨l', e, h1, _, h3⟩ := markInts_l0 l.length (l.length + 1) 0 l 1 hl (by omega) (by omega) (by omega) (by omega)
  refine ⟨l', h1, ?_, ?_⟩
  · refine Ev.of (fun k => laws_markIntS.mono l 1 k) (k := l.length + 1) ?_
    exact e
  · refine ev_at (l.length + 1) fun k hk => ?_
    rw [← h1]
    exact heldInts_l0 l' (by omega) l'.length k 0 1 (by omega) (by omega) (by omega) (by omega) (fun j hj hj2 => h3 j hj (by omega))
end Go.Proofs.Ytekbfekghheejaa
