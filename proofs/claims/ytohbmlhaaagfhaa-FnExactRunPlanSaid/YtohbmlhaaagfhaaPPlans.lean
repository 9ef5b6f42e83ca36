/- Plain laws of plans: sets of glasses, turns, moments. No statement of the seat is proved here. -/
import Derived.Test.YtohbmlhaaagfhaaPEv
import Derived.Test.YtohbmlhaaagfhaaRun
import Derived.Test.YtohbmlhaaagfhaaQAll4
import Derived.Test.YtohbmlhaaagfhaaQAll1
import Derived.Test.YtohbmlhaaagfhaaQAll2
namespace Go.Proofs.Ytohbmlhaaagfhaa
open Go.RowKit Go.Proofs.YtohbmlhaaagfhaaW.PrintWords Go.Proofs.YtohbmlhaaagfhaaW.PrintLast Go.Proofs.Ytohbmlhaaagfhaa.QAll
set_option linter.unusedVariables false
set_option linter.unusedSimpArgs false
theorem wrapN {i n : Nat} (h : i < n) (hn : n ≤ 4611686018427387904) : wrap64 ((i : Int) + 1) = ((i + 1 : Nat) : Int) := by
  unfold wrap64; omega
theorem eqI_l0 (l : List Int) (hl : l.length ≤ 4611686018427387904) : ∀ (d k i : Nat), i + d = l.length → d < k → laws_eqIntS.l0 k l l (i : Int) = some true
  | 0, k, i, h, hk => by
    obtain ⟨k, rfl⟩ : ∃ m, k = m + 1 := ⟨k - 1, by omega⟩
    simp only [laws_eqIntS.l0]
    rw [if_neg (by omega)]
  | d + 1, k, i, h, hk => by
    obtain ⟨k, rfl⟩ : ∃ m, k = m + 1 := ⟨k - 1, by omega⟩
    simp only [laws_eqIntS.l0]
    rw [if_pos (by omega), if_pos (by omega), if_pos (by omega), if_pos trivial, wrapN (n := l.length) (by omega) hl]
    exact eqI_l0 l hl d k (i + 1) (by omega) (by omega)
theorem eqI_same (l : List Int) (hl : l.length ≤ 4611686018427387904) : Ev (fun k => laws_eqIntS.f k l l) true :=
  ev_at (l.length + 1) fun k hk => by
    unfold laws_eqIntS.f
    rw [if_pos rfl]
    exact eqI_l0 l hl l.length k 0 (by omega) (by omega)
theorem toI_l0 (l : List Int) (hl : l.length ≤ 1048576) : ∀ (d k i : Nat) (m : List Int), i + d = l.length → d < k → m.length = l.length → (∀ j, j < i → m[j]? = l[j]?) → laws_toIntS.l0 k l m (i : Int) = some l
  | 0, k, i, m, h, hk, hm, he => by
    obtain ⟨k, rfl⟩ : ∃ m, k = m + 1 := ⟨k - 1, by omega⟩
    simp only [laws_toIntS.l0]
    rw [if_neg (by omega)]
    congr 1
    apply List.ext_getElem?
    intro j
    by_cases c : j < i
    · exact he j c
    · rw [List.getElem?_eq_none (by omega), List.getElem?_eq_none (by omega)]
  | d + 1, k, i, m, h, hk, hm, he => by
    obtain ⟨k, rfl⟩ : ∃ m, k = m + 1 := ⟨k - 1, by omega⟩
    simp only [laws_toIntS.l0]
    rw [if_pos (by omega), if_pos (by omega), if_pos (by omega), wrapN (n := l.length) (by omega) (by omega)]
    refine toI_l0 l hl d k (i + 1) _ (by omega) (by omega) (by simpa using hm) (fun j hj => ?_)
    by_cases q : j = i
    · subst q
      simp [rd, List.getD_eq_getElem?_getD, List.getElem?_set, show j < m.length by omega, List.getElem?_eq_getElem (show j < l.length by omega)]
    · rw [Int.toNat_natCast, List.getElem?_set_ne (by omega)]
      exact he j (by omega)
theorem toI (l : List Int) (hl : l.length ≤ 1048576) : Ev (fun k => laws_toIntS.f k l) l :=
  ev_at (l.length + 1) fun k hk => by
    unfold laws_toIntS.f
    rw [if_pos (by omega), if_pos (by omega), Int.toNat_natCast]
    exact toI_l0 l hl l.length k 0 _ (by omega) (by omega) (by simp) (fun j hj => absurd hj (Nat.not_lt_zero j))
theorem rd_nat (l : List Int) (i : Nat) : rd l (i : Int) = l.getD i 0 := by simp [rd]
theorem plan_go (a b c d : Int) (l : List Int) (hl : l.length ≤ 1048576) : ∀ (n k i : Nat), i + n = 13 → i ≤ l.length → 2 * n + 2 < k → (∀ j, j < i → isSetB (v4 a b c d) (l.getD j 0) = true) → spec_l2Plan.l0 k l (i : Int) a b c d = some (isPlanB (v4 a b c d) l) := by
  intro n
  induction n with
  | zero =>
    intro k i h hi hk ha
    obtain ⟨k, rfl⟩ : ∃ m, k = m + 1 + 1 := ⟨k - 2, by omega⟩
    simp only [spec_l2Plan.l0]
    by_cases q : i < l.length
    · rw [if_pos (by omega), show decide ((i : Int) ≤ 12) = false from decide_eq_false (by omega)]
      simp only [spec_l2Plan.j1, Bool.false_eq_true, if_false]
      congr 1
      simp [isPlanB, show ¬ l.length ≤ 12 by omega]
      omega
    · rw [if_neg (by omega)]
      simp only [spec_l2Plan.j1, Bool.false_eq_true, if_false]
      congr 1
      simp [isPlanB, show ¬ l.length ≤ 12 by omega]
      omega
  | succ n ih =>
    intro k i h hi hk ha
    obtain ⟨k, rfl⟩ : ∃ m, k = m + 1 + 1 := ⟨k - 2, by omega⟩
    simp only [spec_l2Plan.l0]
    by_cases q : i < l.length
    · rw [if_pos (by omega), show decide ((i : Int) ≤ 12) = true from decide_eq_true (by omega)]
      simp only [spec_l2Plan.j1, if_true]
      rw [if_pos (by omega), if_pos (by omega)]
      unfold xL2Set.f
      simp only [Option.bind_some, rd_nat]
      cases s : isSetB (v4 a b c d) (l.getD i 0)
      · simp only [Bool.false_eq_true, if_false]
        congr 1
        symm
        simp only [isPlanB, Bool.and_eq_false_iff]
        right
        rw [List.all_eq_false]
        refine ⟨l.getD i 0, ?_, by rw [s]; simp⟩
        rw [List.getD_eq_getElem?_getD, List.getElem?_eq_getElem q]
        simp
      · simp only [if_true]
        rw [wrapN (n := l.length) q (by omega)]
        exact ih k (i + 1) (by omega) (by omega) (by omega) (fun j hj => by
          by_cases e : j = i
          · subst e; exact s
          · exact ha j (by omega))
    · rw [if_neg (by omega)]
      simp only [spec_l2Plan.j1, Bool.false_eq_true, if_false]
      congr 1
      have : l.all (isSetB (v4 a b c d)) = true := by
        rw [List.all_eq_true]
        intro x hx
        obtain ⟨j, hj, rfl⟩ := List.getElem_of_mem hx
        have := ha j (by omega)
        rwa [List.getD_eq_getElem?_getD, List.getElem?_eq_getElem hj] at this
      simp only [isPlanB, this, Bool.and_true]
      exact decide_eq_decide.2 (by omega)
theorem plan_same (a b c d : Int) (l : List Int) (hl : l.length ≤ 1048576) : Ev (fun k => spec_l2Plan.f k a b c d l) (isPlanB (v4 a b c d) l) :=
  ev_at 40 fun k hk => by
    unfold spec_l2Plan.f
    exact plan_go a b c d l hl 13 k 0 (by omega) (by omega) (by omega) (fun j hj => absurd hj (Nat.not_lt_zero j))
def nrm (f : Nat → Int) : Nat → Int := v4 (f 0) (f 1) (f 2) (f 3)
theorem nrm_eq {f g : Nat → Int} (h : ∀ j, j < 4 → f j = g j) : nrm f = nrm g := by
  unfold nrm; rw [h 0 (by omega), h 1 (by omega), h 2 (by omega), h 3 (by omega)]
theorem nrm_at (f : Nat → Int) : ∀ j, j < 4 → nrm f j = f j := by
  intro j hj
  obtain rfl | rfl | rfl | rfl : j = 0 ∨ j = 1 ∨ j = 2 ∨ j = 3 := by omega
  all_goals rfl
theorem stepD_nrm (K f : Nat → Int) (x : Int) : stepD K (nrm f) x = stepD K f x := rfl
theorem stepS_nrm (K f : Nat → Int) (x : Int) : ∀ j, j < 4 → stepS K (nrm f) x j = stepS K f x j := by
  intro j hj
  obtain rfl | rfl | rfl | rfl : j = 0 ∨ j = 1 ∨ j = 2 ∨ j = 3 := by omega
  all_goals rfl
theorem runGo_agree (K : Nat → Int) : ∀ (l T : List Int) (f g : Nat → Int), (∀ j, j < 4 → f j = g j) → (runGo K l T f).1 = (runGo K l T g).1 ∧ ∀ j, j < 4 → (runGo K l T f).2 j = (runGo K l T g).2 j
  | [], T, f, g, h => ⟨rfl, h⟩
  | x :: l, T, f, g, h => by
    have e : stepD K f x = stepD K g x := by rw [← stepD_nrm K f, ← stepD_nrm K g, nrm_eq h]
    have e2 : ∀ j, j < 4 → stepS K f x j = stepS K g x j := fun j hj => by rw [← stepS_nrm K f x j hj, ← stepS_nrm K g x j hj, nrm_eq h]
    simp only [runGo, e]
    by_cases z : stepD K g x = 0
    · simp only [if_pos z]; exact ⟨trivial, h⟩
    · simp only [if_neg z]; exact runGo_agree K l _ _ _ e2
theorem sandB_of2 {k s : Nat → Int} (h : Sand k s) : isSandB k s = true := by
  simp only [isSandB, Bool.and_eq_true, inB_iff]
  exact ⟨⟨⟨⟨h.lo 0 (by omega), h.hi 0 (by omega)⟩, ⟨h.lo 1 (by omega), h.hi 1 (by omega)⟩⟩, ⟨h.lo 2 (by omega), h.hi 2 (by omega)⟩⟩, ⟨h.lo 3 (by omega), h.hi 3 (by omega)⟩⟩
theorem moments_go (a b c d : Int) (l : List Int) (hl : l.length ≤ 12) (hK : isKitB (v4 a b c d) = true) : ∀ (n k i : Nat) (T : List Int) (e f g h : Int), i + n = l.length → n < k → T.length = i + 1 → isSandB (v4 a b c d) (v4 e f g h) = true →
    spec_l2Moments.l0 k l T (i : Int) a b c d e f g h = some ((runGo (v4 a b c d) (l.drop i) T (v4 e f g h)).1, (runGo (v4 a b c d) (l.drop i) T (v4 e f g h)).2 0, (runGo (v4 a b c d) (l.drop i) T (v4 e f g h)).2 1, (runGo (v4 a b c d) (l.drop i) T (v4 e f g h)).2 2, (runGo (v4 a b c d) (l.drop i) T (v4 e f g h)).2 3) := by
  intro n
  induction n with
  | zero =>
    intro k i T e f g h hi hk hT hs
    obtain ⟨k, rfl⟩ : ∃ m, k = m + 1 := ⟨k - 1, by omega⟩
    simp only [spec_l2Moments.l0]
    rw [if_neg (by omega), List.drop_eq_nil_of_le (by omega)]
    rfl
  | succ n ih =>
    intro k i T e f g h hi hk hT hs
    obtain ⟨k, rfl⟩ : ∃ m, k = m + 1 := ⟨k - 1, by omega⟩
    have q : (isKitB (v4 a b c d) && isSandB (v4 a b c d) (v4 e f g h)) = true := by rw [Bool.and_eq_true]; exact ⟨hK, hs⟩
    have hd : l.drop i = l.getD i 0 :: l.drop (i + 1) := by
      rw [List.drop_eq_getElem_cons (show i < l.length by omega)]; simp [List.getD_eq_getElem?_getD, List.getElem?_eq_getElem (show i < l.length by omega)]
    simp only [spec_l2Moments.l0]
    rw [if_pos (by omega), if_pos (by omega), rd_nat l i, hd]
    unfold xL2Step.f
    rw [if_pos q]
    simp only [Option.bind_some, runGo]
    by_cases z : stepD (v4 a b c d) (v4 e f g h) (l.getD i 0) = 0
    · simp only [if_pos z]; rfl
    · simp only [if_neg z]
      have e1 : (T.length : Int) - 1 = (i : Int) := by omega
      rw [if_pos (by omega), if_pos (by omega), wrapN (n := l.length) (by omega) (by omega), e1]
      have S2 := sandB_of2 ((sand_of' q).step (l.getD i 0))
      have A := runGo_agree (v4 a b c d) (l.drop (i + 1)) (T ++ [wrap64 (rd T (i : Int) + stepD (v4 a b c d) (v4 e f g h) (l.getD i 0))]) (nrm (stepS (v4 a b c d) (v4 e f g h) (l.getD i 0))) (stepS (v4 a b c d) (v4 e f g h) (l.getD i 0)) (nrm_at _)
      have := ih k (i + 1) (T ++ [wrap64 (rd T (i : Int) + stepD (v4 a b c d) (v4 e f g h) (l.getD i 0))]) (stepS (v4 a b c d) (v4 e f g h) (l.getD i 0) 0) (stepS (v4 a b c d) (v4 e f g h) (l.getD i 0) 1) (stepS (v4 a b c d) (v4 e f g h) (l.getD i 0) 2) (stepS (v4 a b c d) (v4 e f g h) (l.getD i 0) 3) (by omega) (by omega) (by simp; omega) S2
      refine this.trans ?_
      have A1 := A.1
      have A20 := A.2 0 (by omega)
      have A21 := A.2 1 (by omega)
      have A22 := A.2 2 (by omega)
      have A23 := A.2 3 (by omega)
      rw [← A1, ← A20, ← A21, ← A22, ← A23]
      rfl
theorem moments_same (a b c d e f g h : Int) (l : List Int) (hl : l.length ≤ 12) (hK : isKitB (v4 a b c d) = true) (hs : isSandB (v4 a b c d) (v4 e f g h) = true) :
    Ev (fun k => spec_l2Moments.f k a b c d e f g h l) ((runGo (v4 a b c d) l [0] (v4 e f g h)).1, (runGo (v4 a b c d) l [0] (v4 e f g h)).2 0, (runGo (v4 a b c d) l [0] (v4 e f g h)).2 1, (runGo (v4 a b c d) l [0] (v4 e f g h)).2 2, (runGo (v4 a b c d) l [0] (v4 e f g h)).2 3) :=
  ev_at (l.length + 1) fun k hk => by
    unfold spec_l2Moments.f
    have := moments_go a b c d l hl hK l.length k 0 [0] e f g h (by omega) (by omega) (by simp) hs
    simpa using this
theorem run_same (a b c d e f g h : Int) (l : List Int) (hl : l.length ≤ 12) (hK : isKitB (v4 a b c d) = true) (hs : isSandB (v4 a b c d) (v4 e f g h) = true) :
    xRun.f a b c d e f g h l = some ((runGo (v4 a b c d) l [0] (v4 e f g h)).1, (runGo (v4 a b c d) l [0] (v4 e f g h)).2 0, (runGo (v4 a b c d) l [0] (v4 e f g h)).2 1, (runGo (v4 a b c d) l [0] (v4 e f g h)).2 2, (runGo (v4 a b c d) l [0] (v4 e f g h)).2 3) := by
  unfold xRun.f
  rw [if_pos (by simp [hK, hs, hl])]
theorem runGo_len (K : Nat → Int) : ∀ (l T : List Int) (s : Nat → Int), T.length ≤ (runGo K l T s).1.length ∧ (runGo K l T s).1.length ≤ T.length + l.length
  | [], T, s => by simp [runGo]
  | x :: l, T, s => by
    simp only [runGo]
    split
    · simp
    · have := runGo_len K l (T ++ [wrap64 (rd T ((T.length : Int) - 1) + stepD K s x)]) (stepS K s x)
      simp only [List.length_append, List.length_cons, List.length_nil] at this ⊢
      omega
end Go.Proofs.Ytohbmlhaaagfhaa
