/- Rope plans: how many tell a time, in plain numbers. No statement of the seat is proved here. -/
import Derived.Test.YtdbnajaimodnmaaExtR
namespace Go.Proofs.Ytdbnajaimodnmaa
open Go.RowKit
set_option linter.unusedVariables false
set_option linter.unusedSimpArgs false
theorem wrap_id {x : Int} (h : -4000000000000000000 ≤ x) (h2 : x ≤ 4000000000000000000) : wrap64 x = x := by unfold wrap64; omega
theorem of_rope {r : Nat → Int} (lo : ∀ j, j < 3 → 0 ≤ r j ∧ r j ≤ 3840) (en : ∀ j, j < 3 → 0 ≤ r (3 + j) ∧ r (3 + j) ≤ 2) (no : ∀ j, j < 3 → r j = 0 → r (3 + j) = 0) : isRopesB r = true := by
  have q : ∀ j, j < 3 → ropeB r j = true := by
    intro j hj
    unfold ropeB
    simp only [Bool.and_eq_true, inB_iff, Bool.not_eq_true', Bool.and_eq_false_iff, decide_eq_false_iff_not, Bool.not_eq_false', decide_eq_true_eq]
    refine ⟨⟨lo j hj, en j hj⟩, ?_⟩
    by_cases z : r j = 0
    · exact .inr (no j hj z)
    · exact .inl z
  unfold isRopesB
  rw [q 0 (by omega), q 1 (by omega), q 2 (by omega)]; rfl
theorem lit_parts {f l : Nat → Int} {j : Nat} (h : litB f l j = true) : 0 ≤ l j ∧ l j ≤ 2 ∧ f (3 + j) + l j ≤ 2 ∧ (f j = 0 → l j ≤ 0) := by
  unfold litB at h
  simp only [Bool.and_eq_true, inB_iff, Bool.not_eq_true', Bool.and_eq_false_iff, decide_eq_false_iff_not, decide_eq_true_eq] at h
  obtain ⟨⟨⟨a, b⟩, c⟩, d⟩ := h
  refine ⟨a, b, c, fun z => ?_⟩
  rcases d with d | d
  · exact absurd z d
  · omega
theorem lit_rope {f l : Nat → Int} (h : isRopesB f = true) (hl : litsB f l = true) : isRopesB (litTo f l 3) = true := by
  have R := rope_of h
  have p : ∀ j, j < 3 → litB f l j = true := by
    unfold litsB at hl
    simp only [Bool.and_eq_true] at hl
    exact three hl.1.1 hl.1.2 hl.2
  have a : ∀ j, j < 3 → litTo f l 3 j = f j := fun j hj => by unfold litTo; rw [if_neg (by omega)]
  have b : ∀ j, j < 3 → litTo f l 3 (3 + j) = f (3 + j) + l j := fun j hj => by unfold litTo; rw [if_pos (by omega), Nat.add_sub_cancel_left]
  refine of_rope (fun j hj => by rw [a j hj]; exact R.lo j hj) (fun j hj => ?_) (fun j hj z => ?_)
  · rw [b j hj]
    have := lit_parts (p j hj)
    have := R.en j hj
    omega
  · rw [a j hj] at z
    rw [b j hj]
    have := lit_parts (p j hj)
    have := R.no j hj z
    omega
theorem opt_rope {f : Nat → Int} {b : Bool} (h : b = true → isRopesB f = true) : isRopesB (opt f b) = true := by
  cases b
  · rfl
  · exact h rfl
theorem burn_rope {r : Nat → Int} (h : isRopesB r = true) (hd : toldF r ≠ 0) : isRopesB (burnF r (toldF r)) = true := by
  have R := rope_of h
  have hh := R.halves
  have ht := R.told
  obtain ⟨d, hdd⟩ : ∃ d, d = toldF r := ⟨_, rfl⟩
  rw [← hdd] at hd ht ⊢
  have e : d = halvesF r / 2 := by
    unfold toldF at hdd
    split at hdd
    · exact hdd
    · exact absurd hdd hd
  have bo := burns_ok R (d := d) ht.1
  rw [show inB 0 (halvesF r / 2) d = true by rw [inB_iff]; omega] at bo
  have ov : ∀ j, j < 3 → overB r d j = false := by
    unfold burnsOk at bo
    simp only [Bool.and_eq_true, Bool.not_eq_true'] at bo
    exact three bo.1.1.1 bo.1.1.2 bo.1.2
  have key : ∀ j, j < 3 → 0 ≤ d * r (3 + j) ∧ d * r (3 + j) ≤ r j := by
    intro j hj
    have en := R.en j hj
    have lo := R.lo j hj
    have o := ov j hj
    unfold overB at o
    simp only [Bool.and_eq_false_iff, decide_eq_false_iff_not] at o
    obtain z | z | z : r (3 + j) = 0 ∨ r (3 + j) = 1 ∨ r (3 + j) = 2 := by omega
    all_goals rw [z] at o ⊢
    all_goals omega
  have q : ∀ j, j < 3 → burnQ r d j = r j - d * r (3 + j) := by
    intro j hj
    have := key j hj
    have lo := R.lo j hj
    unfold burnQ
    rw [wrap_id (x := d * r (3 + j)) (by omega) (by omega), wrap_id (by omega) (by omega)]
  have a : ∀ j, j < 3 → burnF r d j = r j - d * r (3 + j) := fun j hj => by unfold burnF; rw [if_pos hj, q j hj]
  have b : ∀ j, j < 3 → burnF r d (3 + j) = if r j - d * r (3 + j) = 0 then 0 else r (3 + j) := fun j hj => by
    unfold burnF; rw [if_neg (by omega), Nat.add_sub_cancel_left, q j hj]
  refine of_rope (fun j hj => ?_) (fun j hj => ?_) (fun j hj z => ?_)
  · rw [a j hj]
    have := key j hj
    have := R.lo j hj
    omega
  · rw [b j hj]
    have := R.en j hj
    split <;> omega
  · rw [a j hj] at z
    rw [b j hj, if_pos z]
/-- the lighting of a number -/
def litC (c : Nat) : Nat → Int := v3 ((c / 9 : Nat) : Int) ((c / 3 % 3 : Nat) : Int) ((c % 3 : Nat) : Int)
/-- the ropes behind a lighting, or none -/
def ltC (f : Nat → Int) (c : Nat) : Nat → Int := opt (litTo f (litC c) 3) (litsB f (litC c))
theorem ltC_rope {f : Nat → Int} (h : isRopesB f = true) (c : Nat) : isRopesB (ltC f c) = true := opt_rope fun hl => lit_rope h hl
def okC (f : Nat → Int) (c : Nat) : Bool := litsB f (litC c) && decide (0 < toldF (ltC f c))
def nxC (f : Nat → Int) (c : Nat) : Nat → Int := burnF (ltC f c) (toldF (ltC f c))
def preS (S : Nat → Nat) (j : Nat) : Nat := ((List.range j).map S).sum
theorem preS_succ (S : Nat → Nat) (j : Nat) : preS S (j + 1) = preS S j + S j := by
  unfold preS; rw [List.range_succ, List.map_append, List.sum_append]; simp
theorem preS_le (S : Nat → Nat) {i j : Nat} (h : i ≤ j) : preS S i ≤ preS S j := by
  induction j with
  | zero => rw [Nat.le_zero.1 h]; exact Nat.le_refl _
  | succ j ih =>
    by_cases e : i = j + 1
    · rw [e]; exact Nat.le_refl _
    · rw [preS_succ]; exact Nat.le_trans (ih (by omega)) (Nat.le_add_right _ _)
def one (T a : Int) : Nat := if a = T then 1 else 0
def cntE (T : Int) : Nat → (Nat → Int) → Int → Nat
  | 0, f, a => one T a
  | n + 1, f, a => one T a + preS (fun c => if okC f c = true then cntE T n (nxC f c) (a + toldF (ltC f c)) else 0) 27
def Ends : Nat → (Nat → Int) → Prop
  | 0, f => ∀ c, c < 27 → okC f c = false
  | n + 1, f => ∀ c, c < 27 → okC f c = true → Ends n (nxC f c)
theorem okC_parts {f : Nat → Int} {c : Nat} : okC f c = true ↔ litsB f (litC c) = true ∧ 0 < toldF (ltC f c) := by simp [okC]
theorem nxC_rope {f : Nat → Int} (h : isRopesB f = true) {c : Nat} (hc : okC f c = true) : isRopesB (nxC f c) = true := burn_rope (ltC_rope h c) (by have := (okC_parts.1 hc).2; omega)
end Go.Proofs.Ytdbnajaimodnmaa
