/- Plain laws of rope plans: the program's run and the reference's are one. No statement of the seat is proved here. -/
import Derived.Test.YtdbnajaimodnmaaPEq
import Derived.Test.YtdbnajaimodnmaaExtR
import Derived.Test.YtdbnajaimodnmaaQRo0
import Derived.Test.YtdbnajaimodnmaaQRo1
import Derived.Test.YtdbnajaimodnmaaQRo2
import Derived.Test.YtdbnajaimodnmaaQRo3
namespace Go.Proofs.Ytdbnajaimodnmaa
open Go.RowKit Go.Proofs.YtdbnajaimodnmaaW.PrintWords Go.Proofs.YtdbnajaimodnmaaW.PrintLast Go.Proofs.Ytdbnajaimodnmaa.QRo
set_option linter.unusedVariables false
set_option linter.unusedSimpArgs false
theorem wrap_id {x : Int} (h : -4000000000000000000 ≤ x) (h2 : x ≤ 4000000000000000000) : wrap64 x = x := by unfold wrap64; omega
theorem of_rope {r : Nat → Int} (lo : ∀ j, j < 3 → 0 ≤ r j ∧ r j ≤ 3840) (en : ∀ j, j < 3 → 0 ≤ r (3 + j) ∧ r (3 + j) ≤ 2) (no : ∀ j, j < 3 → r j = 0 → r (3 + j) = 0) : isRopesB r = true := by
  have q : ∀ j, j < 3 → ropeB r j = true := by
    intro j hj
    unfold ropeB
    simp only [Bool.and_eq_true, inB_iff, Bool.not_eq_true', Bool.and_eq_false_iff, decide_eq_false_iff_not, Bool.not_eq_false', decide_eq_true_eq]
    refine ⟨⟨lo j hj, en j hj⟩, ?_⟩
    by_cases z : r j = 0
    · exact .inr (no j hj z)
    · exact .inl z
  unfold isRopesB
  rw [q 0 (by omega), q 1 (by omega), q 2 (by omega)]; rfl
theorem lit_parts {f l : Nat → Int} {j : Nat} (h : litB f l j = true) : 0 ≤ l j ∧ l j ≤ 2 ∧ f (3 + j) + l j ≤ 2 ∧ (f j = 0 → l j ≤ 0) := by
  unfold litB at h
  simp only [Bool.and_eq_true, inB_iff, Bool.not_eq_true', Bool.and_eq_false_iff, decide_eq_false_iff_not, decide_eq_true_eq] at h
  obtain ⟨⟨⟨a, b⟩, c⟩, d⟩ := h
  refine ⟨a, b, c, fun z => ?_⟩
  rcases d with d | d
  · exact absurd z d
  · omega
theorem lit_rope {f l : Nat → Int} (h : isRopesB f = true) (hl : litsB f l = true) : isRopesB (litTo f l 3) = true := by
  have R := rope_of h
  have p : ∀ j, j < 3 → litB f l j = true := by
    unfold litsB at hl
    simp only [Bool.and_eq_true] at hl
    exact three hl.1.1 hl.1.2 hl.2
  have a : ∀ j, j < 3 → litTo f l 3 j = f j := fun j hj => by unfold litTo; rw [if_neg (by omega)]
  have b : ∀ j, j < 3 → litTo f l 3 (3 + j) = f (3 + j) + l j := fun j hj => by unfold litTo; rw [if_pos (by omega), Nat.add_sub_cancel_left]
  refine of_rope (fun j hj => by rw [a j hj]; exact R.lo j hj) (fun j hj => ?_) (fun j hj z => ?_)
  · rw [b j hj]
    have := lit_parts (p j hj)
    have := R.en j hj
    omega
  · rw [a j hj] at z
    rw [b j hj]
    have := lit_parts (p j hj)
    have := R.no j hj z
    omega
theorem opt_rope {f : Nat → Int} {b : Bool} (h : b = true → isRopesB f = true) : isRopesB (opt f b) = true := by
  cases b
  · rfl
  · exact h rfl
theorem burn_rope {r : Nat → Int} (h : isRopesB r = true) (hd : toldF r ≠ 0) : isRopesB (burnF r (toldF r)) = true := by
  have R := rope_of h
  have hh := R.halves
  have ht := R.told
  obtain ⟨d, hdd⟩ : ∃ d, d = toldF r := ⟨_, rfl⟩
  rw [← hdd] at hd ht ⊢
  have e : d = halvesF r / 2 := by
    unfold toldF at hdd
    split at hdd
    · exact hdd
    · exact absurd hdd hd
  have bo := burns_ok R (d := d) ht.1
  rw [show inB 0 (halvesF r / 2) d = true by rw [inB_iff]; omega] at bo
  have ov : ∀ j, j < 3 → overB r d j = false := by
    unfold burnsOk at bo
    simp only [Bool.and_eq_true, Bool.not_eq_true'] at bo
    exact three bo.1.1.1 bo.1.1.2 bo.1.2
  have key : ∀ j, j < 3 → 0 ≤ d * r (3 + j) ∧ d * r (3 + j) ≤ r j := by
    intro j hj
    have en := R.en j hj
    have lo := R.lo j hj
    have o := ov j hj
    unfold overB at o
    simp only [Bool.and_eq_false_iff, decide_eq_false_iff_not] at o
    obtain z | z | z : r (3 + j) = 0 ∨ r (3 + j) = 1 ∨ r (3 + j) = 2 := by omega
    all_goals rw [z] at o ⊢
    all_goals omega
  have q : ∀ j, j < 3 → burnQ r d j = r j - d * r (3 + j) := by
    intro j hj
    have := key j hj
    have lo := R.lo j hj
    unfold burnQ
    rw [wrap_id (x := d * r (3 + j)) (by omega) (by omega), wrap_id (by omega) (by omega)]
  have a : ∀ j, j < 3 → burnF r d j = r j - d * r (3 + j) := fun j hj => by unfold burnF; rw [if_pos hj, q j hj]
  have b : ∀ j, j < 3 → burnF r d (3 + j) = if r j - d * r (3 + j) = 0 then 0 else r (3 + j) := fun j hj => by
    unfold burnF; rw [if_neg (by omega), Nat.add_sub_cancel_left, q j hj]
  refine of_rope (fun j hj => ?_) (fun j hj => ?_) (fun j hj z => ?_)
  · rw [a j hj]
    have := key j hj
    have := R.lo j hj
    omega
  · rw [b j hj]
    have := R.en j hj
    split <;> omega
  · rw [a j hj] at z
    rw [b j hj, if_pos z]
theorem light_f (f l : Nat → Int) (h : isRopesB f = true) : xLight.f (f 0) (f 1) (f 2) (f 3) (f 4) (f 5) (l 0) (l 1) (l 2) = some ((opt (litTo f l 3) (litsB f l)) 0, (opt (litTo f l 3) (litsB f l)) 1, (opt (litTo f l 3) (litsB f l)) 2, (opt (litTo f l 3) (litsB f l)) 3, (opt (litTo f l 3) (litsB f l)) 4, (opt (litTo f l 3) (litsB f l)) 5, litsB f l) := if_pos h
theorem l5Light_f (f l : Nat → Int) (h : isRopesB f = true) : xL5Light.f (f 0) (f 1) (f 2) (f 3) (f 4) (f 5) (l 0) (l 1) (l 2) = some ((opt (litTo f l 3) (litsB f l)) 0, (opt (litTo f l 3) (litsB f l)) 1, (opt (litTo f l 3) (litsB f l)) 2, (opt (litTo f l 3) (litsB f l)) 3, (opt (litTo f l 3) (litsB f l)) 4, (opt (litTo f l 3) (litsB f l)) 5, litsB f l) := if_pos h
theorem told_f (f : Nat → Int) (h : isRopesB f = true) : xTold.f (f 0) (f 1) (f 2) (f 3) (f 4) (f 5) = some (toldF f) := if_pos h
theorem l5Next_f (f : Nat → Int) (h : isRopesB f = true) : xL5Next.f (f 0) (f 1) (f 2) (f 3) (f 4) (f 5) = some (toldF f) := if_pos h
theorem burn_f (f : Nat → Int) (d : Int) : xBurn.f (f 0) (f 1) (f 2) (f 3) (f 4) (f 5) d = some ((burnF f d) 0, (burnF f d) 1, (burnF f d) 2, (burnF f d) 3, (burnF f d) 4, (burnF f d) 5) := rfl
theorem l5Burn_f (f : Nat → Int) (d : Int) : xL5Burn.f (f 0) (f 1) (f 2) (f 3) (f 4) (f 5) d = some ((burnF f d) 0, (burnF f d) 1, (burnF f d) 2, (burnF f d) 3, (burnF f d) 4, (burnF f d) 5) := rfl
def eA (x : S36) : Nat → Int := v3 x.f0 x.f1 x.f2
theorem run_both (l : List S36) (hl : l.length ≤ 1048576) : ∀ (d k1 k2 i : Nat) (T : List Int) (f : Nat → Int), i + d = l.length → 2 * d + 1 < k1 → d < k2 → T.length = i + 1 → isRopesB f = true →
    ∃ (T' : List Int) (g : Nat → Int) (ok : Bool), spec_l5Run.l0 k1 l T (i : Int) (f 0) (f 1) (f 2) (f 3) (f 4) (f 5) = some (T', g 0, g 1, g 2, g 3, g 4, g 5, ok) ∧
      impl_RunRopes.l0 k2 T l (l.length : Int) (i : Int) (f 0) (f 1) (f 2) (f 3) (f 4) (f 5) = some (T', g 0, g 1, g 2, g 3, g 4, g 5, ok) ∧ T'.length ≤ i + d + 1
  | 0, k1, k2, i, T, f, h, hk1, hk2, hT, hf => by
    obtain ⟨k1, rfl⟩ : ∃ m, k1 = m + 1 := ⟨k1 - 1, by omega⟩
    obtain ⟨k2, rfl⟩ : ∃ m, k2 = m + 1 := ⟨k2 - 1, by omega⟩
    refine ⟨T, f, true, ?_, ?_, by omega⟩
    · simp only [spec_l5Run.l0]; rw [if_neg (by omega)]
    · simp only [impl_RunRopes.l0]; rw [if_neg (by omega)]
  | d + 1, k1, k2, i, T, f, h, hk1, hk2, hT, hf => by
    obtain ⟨k1, rfl⟩ : ∃ m, k1 = m + 1 + 1 := ⟨k1 - 2, by omega⟩
    obtain ⟨k2, rfl⟩ : ∃ m, k2 = m + 1 := ⟨k2 - 1, by omega⟩
    obtain ⟨e, he⟩ : ∃ e, e = eA (rd_T36 l (i : Int)) := ⟨_, rfl⟩
    have e0 : (rd_T36 l (i : Int)).f0 = e 0 := by rw [he]; rfl
    have e1 : (rd_T36 l (i : Int)).f1 = e 1 := by rw [he]; rfl
    have e2 : (rd_T36 l (i : Int)).f2 = e 2 := by rw [he]; rfl
    obtain ⟨r, hr⟩ : ∃ r, r = opt (litTo f e 3) (litsB f e) := ⟨_, rfl⟩
    have hrr : isRopesB r = true := by rw [hr]; exact opt_rope (fun hb => lit_rope hf hb)
    simp only [spec_l5Run.l0, impl_RunRopes.l0]
    rw [if_pos (by omega), if_pos (by omega), if_pos (by omega), if_pos (by omega), if_pos (by omega), e0, e1, e2, l5Light_f f e hf, light_f f e hf, ← hr]
    clear e0 e1 e2 he hr
    simp only [Option.bind_some]
    rw [told_f r hrr, l5Next_f r hrr]
    simp only [Option.bind_some]
    cases hb : litsB f e
    · refine ⟨[], fun _ => 0, false, ?_, ?_, by simp⟩
      · rw [if_neg (by simp)]
        simp only [spec_l5Run.j1]
        rw [if_pos trivial]
      · rw [if_neg (by simp)]
    · rw [if_pos rfl, if_pos rfl]
      by_cases z : toldF r = 0
      · refine ⟨[], fun _ => 0, false, ?_, ?_, by simp⟩
        · simp only [spec_l5Run.j1]
          rw [if_pos (by simp [z])]
        · rw [if_pos z]
      · have hi : wrap64 ((i : Int) + 1) = ((i + 1 : Nat) : Int) := by unfold wrap64; omega
        obtain ⟨T', g, ok, q1, q2, q3⟩ := run_both l hl d k1 k2 (i + 1) (T ++ [wrap64 ((rd T (i : Int)) + toldF r)]) (burnF r (toldF r)) (by omega) (by omega) (by omega) (by simp [hT]) (burn_rope hrr z)
        have HZ := Aside0.mk z
        have H1 := Aside0.mk q1
        have H2 := Aside0.mk q2
        clear z q1 q2
        have q4 : T'.length ≤ i + (d + 1) + 1 := Nat.le_trans q3 (Nat.le_of_eq (by rw [Nat.add_assoc i 1 d, Nat.add_comm 1 d]))
        clear q3
        refine ⟨T', g, ok, ?_, ?_, q4⟩
        · simp only [spec_l5Run.j1]
          rw [if_neg (by simp [HZ.out]), if_pos (by omega), if_pos (by omega), l5Next_f r hrr]
          rw [Option.bind_some, if_pos (by omega), Option.bind_some, l5Burn_f r (toldF r), Option.bind_some, hi]
          exact H1.out
        · rw [if_neg HZ.out, burn_f r (toldF r), Option.bind_some, if_pos (by omega), if_pos (by omega), hi]
          exact H2.out
theorem runRopes_both (f : Nat → Int) (l : List S36) (hl : l.length ≤ 1048576) : ∃ (k : Nat) (T : List Int) (g : Nat → Int) (ok : Bool), spec_RunRopes.f k (f 0) (f 1) (f 2) (f 3) (f 4) (f 5) l = some (T, g 0, g 1, g 2, g 3, g 4, g 5, ok) ∧ impl_RunRopes.f k (f 0) (f 1) (f 2) (f 3) (f 4) (f 5) l = some (T, g 0, g 1, g 2, g 3, g 4, g 5, ok) ∧ T.length ≤ l.length + 1 := by
  have hg : xL5Good.f (f 0) (f 1) (f 2) (f 3) (f 4) (f 5) = some (isRopesB f) := rfl
  have hi : xIsRopes.f (f 0) (f 1) (f 2) (f 3) (f 4) (f 5) = some (isRopesB f) := rfl
  refine ⟨2 * l.length + 2, ?_⟩
  unfold spec_RunRopes.f impl_RunRopes.f spec_l5Run.f
  rw [hg, hi]
  simp only [Option.bind_some]
  cases hf : isRopesB f
  · exact ⟨[], fun _ => 0, false, by rw [if_neg (by simp)], by rw [if_neg (by simp)], by simp⟩
  · obtain ⟨T, g, ok, a, b, c⟩ := run_both l hl l.length (2 * l.length + 2) (2 * l.length + 2) 0 [0] f (by omega) (by omega) (by omega) rfl hf
    refine ⟨T, g, ok, ?_, ?_, by omega⟩
    · rw [if_pos rfl]
      rw [show ((0 : Nat) : Int) = 0 from rfl] at a
      rw [a]; rfl
    · rw [if_pos rfl]
      exact b
theorem toA_l0 (l : List S36) (hl : l.length ≤ 1048576) : ∀ (d k i : Nat) (m : List S36), i + d = l.length → d < k → m.length = l.length → (∀ j, j < i → m[j]? = l[j]?) → laws_toIntA3S.l0 k l m (i : Int) = some l
  | 0, k, i, m, h, hk, hm, he => by
    obtain ⟨k, rfl⟩ : ∃ m, k = m + 1 := ⟨k - 1, by omega⟩
    simp only [laws_toIntA3S.l0]
    rw [if_neg (by omega)]
    congr 1
    apply List.ext_getElem?
    intro j
    by_cases c : j < i
    · exact he j c
    · rw [List.getElem?_eq_none (by omega), List.getElem?_eq_none (by omega)]
  | d + 1, k, i, m, h, hk, hm, he => by
    obtain ⟨k, rfl⟩ : ∃ m, k = m + 1 := ⟨k - 1, by omega⟩
    have ht : ∀ x : S36, xToIntA3.f x.f0 x.f1 x.f2 = some (x.f0, x.f1, x.f2) := fun _ => rfl
    simp only [laws_toIntA3S.l0]
    rw [if_pos (by omega), if_pos (by omega), ht]
    simp only [Option.bind_some]
    rw [if_pos (by omega), wrapN (n := l.length) (by omega) (by omega)]
    refine toA_l0 l hl d k (i + 1) _ (by omega) (by omega) (by simpa using hm) (fun j hj => ?_)
    by_cases q : j = i
    · subst q
      simp [rd_T36, List.getD_eq_getElem?_getD, List.getElem?_set, show j < m.length by omega, List.getElem?_eq_getElem (show j < l.length by omega)]
    · rw [Int.toNat_natCast, List.getElem?_set_ne (by omega)]
      exact he j (by omega)
theorem toA_f (l : List S36) (hl : l.length ≤ 1048576) : laws_toIntA3S.f (l.length + 1) l = some l := by
  unfold laws_toIntA3S.f
  rw [if_pos (by omega), if_pos (by omega), Int.toNat_natCast]
  exact toA_l0 l hl l.length _ 0 _ (by omega) (by omega) (by simp) (fun j hj => absurd hj (Nat.not_lt_zero j))
theorem eqA_l0 (l : List S36) (hl : l.length ≤ 1048576) : ∀ (d k i : Nat), i + d = l.length → d < k → laws_eqIntA3S.l0 k l l (i : Int) = some true
  | 0, k, i, h, hk => by
    obtain ⟨k, rfl⟩ : ∃ m, k = m + 1 := ⟨k - 1, by omega⟩
    simp only [laws_eqIntA3S.l0]
    rw [if_neg (by omega)]
  | d + 1, k, i, h, hk => by
    obtain ⟨k, rfl⟩ : ∃ m, k = m + 1 := ⟨k - 1, by omega⟩
    have ht : ∀ x : S36, xEqIntA3.f x.f0 x.f1 x.f2 x.f0 x.f1 x.f2 = some true := fun x => if_pos (by simp [eq3B])
    simp only [laws_eqIntA3S.l0]
    rw [if_pos (by omega), if_pos (by omega), if_pos (by omega), ht]
    simp only [Option.bind_some]
    rw [if_pos trivial, wrapN (n := l.length) (by omega) (by omega)]
    exact eqA_l0 l hl d k (i + 1) (by omega) (by omega)
theorem eqA_f (l : List S36) (hl : l.length ≤ 1048576) : laws_eqIntA3S.f (l.length + 1) l l = some true := by
  unfold laws_eqIntA3S.f
  rw [if_pos rfl]
  exact eqA_l0 l hl l.length _ 0 (by omega) (by omega)
end Go.Proofs.Ytdbnajaimodnmaa
