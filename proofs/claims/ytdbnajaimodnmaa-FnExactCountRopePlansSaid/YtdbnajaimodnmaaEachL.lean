/- Rope plans: bounds, and that they end. No statement of the seat is proved here. -/
import Derived.Test.YtdbnajaimodnmaaEachP
namespace Go.Proofs.Ytdbnajaimodnmaa
open Go.RowKit
set_option linter.unusedVariables false
set_option linter.unusedSimpArgs false
theorem cntE_le (T : Int) : ∀ (n : Nat) (f : Nat → Int) (a : Int), cntE T n f a ≤ 28 ^ n
  | 0, f, a => by unfold cntE one; split <;> omega
  | n + 1, f, a => by
    have h : ∀ j, preS (fun c => if okC f c = true then cntE T n (nxC f c) (a + toldF (ltC f c)) else 0) j ≤ j * 28 ^ n := by
      intro j
      induction j with
      | zero => simp [preS]
      | succ j ih =>
        rw [preS_succ, Nat.succ_mul]
        refine Nat.add_le_add ih ?_
        split
        · exact cntE_le T n _ _
        · exact Nat.zero_le _
    have h1 := h 27
    have h2 : one T a ≤ 28 ^ n := Nat.le_trans (by unfold one; split <;> omega) (Nat.one_le_pow n 28 (by omega))
    unfold cntE
    rw [Nat.pow_succ]
    omega
def live (f : Nat → Int) : Nat := (if f 0 = 0 then 0 else 1) + (if f 1 = 0 then 0 else 1) + (if f 2 = 0 then 0 else 1)
theorem burn_at {r : Nat → Int} (h : isRopesB r = true) (hd : toldF r ≠ 0) : ∀ j, j < 3 → burnF r (toldF r) j = r j - toldF r * r (3 + j) ∧ 0 ≤ toldF r * r (3 + j) ∧ toldF r * r (3 + j) ≤ r j := by
  have R := rope_of h
  have hh := R.halves
  have ht := R.told
  obtain ⟨d, hdd⟩ : ∃ d, d = toldF r := ⟨_, rfl⟩
  rw [← hdd] at hd ht ⊢
  have e : d = halvesF r / 2 := by
    unfold toldF at hdd
    split at hdd
    · exact hdd
    · exact absurd hdd hd
  have bo := burns_ok R (d := d) ht.1
  rw [show inB 0 (halvesF r / 2) d = true by rw [inB_iff]; omega] at bo
  have ov : ∀ j, j < 3 → overB r d j = false := by
    unfold burnsOk at bo
    simp only [Bool.and_eq_true, Bool.not_eq_true'] at bo
    exact three bo.1.1.1 bo.1.1.2 bo.1.2
  have key : ∀ j, j < 3 → 0 ≤ d * r (3 + j) ∧ d * r (3 + j) ≤ r j := by
    intro j hj
    have en := R.en j hj
    have lo := R.lo j hj
    have o := ov j hj
    unfold overB at o
    simp only [Bool.and_eq_false_iff, decide_eq_false_iff_not] at o
    obtain z | z | z : r (3 + j) = 0 ∨ r (3 + j) = 1 ∨ r (3 + j) = 2 := by omega
    all_goals rw [z] at o ⊢
    all_goals omega
  have q : ∀ j, j < 3 → burnQ r d j = r j - d * r (3 + j) := by
    intro j hj
    have := key j hj
    have lo := R.lo j hj
    unfold burnQ
    rw [wrap_id (x := d * r (3 + j)) (by omega) (by omega), wrap_id (by omega) (by omega)]
  have a : ∀ j, j < 3 → burnF r d j = r j - d * r (3 + j) := fun j hj => by unfold burnF; rw [if_pos hj, q j hj]
  exact fun j hj => ⟨a j hj, key j hj⟩
theorem halves_at (r : Nat → Int) : ∀ n, halvesTo r n = 0 ∨ ∃ j, j < n ∧ r (3 + j) ≠ 0 ∧ halvesTo r n = 2 * r j / r (3 + j)
  | 0 => .inl rfl
  | n + 1 => by
    show hx r (halvesTo r n) n = 0 ∨ ∃ j, j < n + 1 ∧ r (3 + j) ≠ 0 ∧ hx r (halvesTo r n) n = 2 * r j / r (3 + j)
    have ih := halves_at r n
    unfold hx
    by_cases z : r (3 + n) = 0
    · rw [if_pos z]
      rcases ih with h | ⟨j, h1, h2, h3⟩
      · exact .inl h
      · exact .inr ⟨j, by omega, h2, h3⟩
    · rw [if_neg z]
      by_cases y : halvesTo r n = 0 ∨ 2 * r n / r (3 + n) < halvesTo r n
      · rw [if_pos y]
        exact .inr ⟨n, by omega, z, rfl⟩
      · rw [if_neg y]
        rcases ih with h | ⟨j, h1, h2, h3⟩
        · exact .inl h
        · exact .inr ⟨j, by omega, h2, h3⟩
theorem one_out {r : Nat → Int} (h : isRopesB r = true) (hd : 0 < toldF r) : ∃ j, j < 3 ∧ r j ≠ 0 ∧ burnF r (toldF r) j = 0 := by
  have R := rope_of h
  have B := burn_at h (by omega)
  have e : toldF r = halvesF r / 2 ∧ halvesF r % 2 = 0 := by
    unfold toldF at hd ⊢
    split at hd
    · rename_i q; rw [if_pos q]; exact ⟨rfl, q⟩
    · omega
  rcases halves_at r 3 with z | ⟨j, hj, h1, h2⟩
  · rw [show halvesF r = 0 from z] at e; omega
  · have en := R.en j hj
    have lo := R.lo j hj
    have b := B j hj
    have e2 : halvesF r = 2 * r j / r (3 + j) := h2
    refine ⟨j, hj, ?_, ?_⟩
    · intro z; rw [z] at e2; simp at e2; omega
    · rw [b.1]
      obtain q | q : r (3 + j) = 1 ∨ r (3 + j) = 2 := by omega
      · rw [q] at e2 ⊢; omega
      · rw [q] at e2 ⊢; omega
/-- a lighting that tells burns a rope out -/
theorem live_less {f : Nat → Int} (h : isRopesB f = true) {c : Nat} (hc : okC f c = true) : live (nxC f c) < live f := by
  obtain ⟨h1, h2⟩ := okC_parts.1 hc
  have RR := ltC_rope h c
  have e : ltC f c = litTo f (litC c) 3 := by unfold ltC; rw [h1]; rfl
  have e0 : ∀ j, j < 3 → ltC f c j = f j := fun j hj => by rw [e]; unfold litTo; rw [if_neg (by omega)]
  obtain ⟨r, hr⟩ : ∃ r, r = ltC f c := ⟨_, rfl⟩
  unfold nxC
  rw [← hr] at RR h2 e0 ⊢
  have B := burn_at RR (by omega)
  have zz : ∀ j, j < 3 → f j = 0 → burnF r (toldF r) j = 0 := fun j hj z => by
    have b := B j hj
    rw [e0 j hj] at b
    omega
  obtain ⟨j, hj, h3, h4⟩ := one_out RR h2
  rw [e0 j hj] at h3
  have z0 := zz 0 (by omega)
  have z1 := zz 1 (by omega)
  have z2 := zz 2 (by omega)
  unfold live
  obtain rfl | rfl | rfl : j = 0 ∨ j = 1 ∨ j = 2 := by omega
  all_goals (repeat' split) <;> simp_all
theorem ends_live : ∀ (n : Nat) (f : Nat → Int), isRopesB f = true → live f ≤ n → Ends n f
  | 0, f, h, hl => fun c hc => by
    cases q : okC f c
    · rfl
    · have := live_less h q; omega
  | n + 1, f, h, hl => fun c hc q => ends_live n _ (nxC_rope h q) (by have := live_less h q; omega)
theorem ends3 {f : Nat → Int} (h : isRopesB f = true) : Ends 3 f := ends_live 3 f h (by unfold live; split <;> split <;> split <;> omega)
end Go.Proofs.Ytdbnajaimodnmaa
