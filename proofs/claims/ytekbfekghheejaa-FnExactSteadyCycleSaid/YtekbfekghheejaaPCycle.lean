/- The plain laws of SteadyCount and SteadyCycle. No statement of the seat is proved here. -/
import Derived.Test.YtekbfekghheejaaPEv
import Derived.Test.YtekbfekghheejaaId
import Derived.Test.YtekbfekghheejaaQAll2
import Derived.Test.YtekbfekghheejaaQAll4
import Derived.Test.YtekbfekghheejaaQAll1
import Derived.Test.YtekbfekghheejaaQAll3
namespace Go.Proofs.Ytekbfekghheejaa
open Go.RowKit Go.Proofs.YtekbfekghheejaaW.PrintWords Go.Proofs.YtekbfekghheejaaW.PrintLast Go.Proofs.Ytekbfekghheejaa.QAll
set_option linter.unusedVariables false
set_option linter.unusedSimpArgs false
theorem mul_in {x y A B : Int} (hx : 0 ≤ x ∧ x ≤ A) (hy : 0 ≤ y ∧ y ≤ B) : 0 ≤ x * y ∧ x * y ≤ A * B :=
  ⟨Int.mul_nonneg hx.1 hy.1, Int.mul_le_mul hx.2 hy.2 hy.1 (Int.le_trans hx.1 hx.2)⟩
theorem dig_lt {a A b m : Int} (ha : 0 ≤ a ∧ a < A) (hb : 0 ≤ b ∧ b < m) : 0 ≤ a * m ∧ 0 ≤ a * m + b ∧ a * m + b < A * m := by
  have h1 : 0 ≤ a * m := Int.mul_nonneg ha.1 (by omega)
  have h2 : (a + 1) * m ≤ A * m := Int.mul_le_mul_of_nonneg_right (by omega) (by omega)
  rw [Int.add_mul, Int.one_mul] at h2
  omega
theorem dig_inj {a a' b b' m : Int} (hb : 0 ≤ b ∧ b < m) (hb' : 0 ≤ b' ∧ b' < m) (e : a * m + b = a' * m + b') : a = a' ∧ b = b' := by
  have key : ∀ {x y : Int}, x < y → x * m + m ≤ y * m := by
    intro x y h
    have := Int.mul_le_mul_of_nonneg_right (show x + 1 ≤ y by omega) (show 0 ≤ m by omega)
    rwa [Int.add_mul, Int.one_mul] at this
  by_cases h : a < a'
  · have := key h; omega
  · by_cases h' : a' < a
    · have := key h'; omega
    · have : a = a' := by omega
      subst this
      exact ⟨rfl, by omega⟩
theorem wrap_small {x : Int} (h : 0 ≤ x ∧ x ≤ 1000000) : wrap64 x = x := by unfold wrap64; omega
/-- the number of a sand, without bounds -/
def idP (k s : Nat → Int) : Int := ((s 0 * (k 1 + 1) + s 1) * (k 2 + 1) + s 2) * (k 3 + 1) + s 3
def prP (k : Nat → Int) : Int := (k 0 + 1) * (k 1 + 1) * (k 2 + 1) * (k 3 + 1)
theorem pr_all {k : Nat → Int} (h : isKitB k = true) : 0 ≤ (k 0 + 1) * (k 1 + 1) ∧ (k 0 + 1) * (k 1 + 1) ≤ 961 ∧ 0 ≤ (k 0 + 1) * (k 1 + 1) * (k 2 + 1) ∧ (k 0 + 1) * (k 1 + 1) * (k 2 + 1) ≤ 29791 ∧ 0 ≤ prP k ∧ prP k ≤ 923521 ∧ prodOf k = prP k := by
  have b0 := kit_bounds h 0 (by omega)
  have b1 := kit_bounds h 1 (by omega)
  have b2 := kit_bounds h 2 (by omega)
  have b3 := kit_bounds h 3 (by omega)
  have p1 := mul_in (x := k 0 + 1) (y := k 1 + 1) (A := 31) (B := 31) (by omega) (by omega)
  have p2 := mul_in (x := (k 0 + 1) * (k 1 + 1)) (y := k 2 + 1) (A := 961) (B := 31) (by omega) (by omega)
  have p3 := mul_in (x := (k 0 + 1) * (k 1 + 1) * (k 2 + 1)) (y := k 3 + 1) (A := 29791) (B := 31) (by omega) (by omega)
  refine ⟨by omega, by omega, by omega, by omega, p3.1, by have := p3.2; unfold prP; omega, ?_⟩
  unfold prodOf prP
  rw [wrap_small (x := k 0 + 1) (by omega), wrap_small (x := k 0 + 1) (by omega), wrap_small (x := k 1 + 1) (by omega), wrap_small (x := k 2 + 1) (by omega), wrap_small (x := k 3 + 1) (by omega), wrap_small (x := (k 0 + 1) * (k 1 + 1)) (by omega), wrap_small (x := (k 0 + 1) * (k 1 + 1) * (k 2 + 1)) (by omega), wrap_small (x := (k 0 + 1) * (k 1 + 1) * (k 2 + 1) * (k 3 + 1)) (by omega)]
theorem id_all {k s : Nat → Int} (h : isKitB k = true) (hs : Sand k s) : idOf k s = idP k s ∧ 0 ≤ idP k s ∧ idP k s < prP k := by
  obtain ⟨u1, u2, u3, u4, u5, u6, _⟩ := pr_all h
  have b0 := kit_bounds h 0 (by omega)
  have b1 := kit_bounds h 1 (by omega)
  have b2 := kit_bounds h 2 (by omega)
  have b3 := kit_bounds h 3 (by omega)
  have l0 := hs.lo 0 (by omega)
  have l1 := hs.lo 1 (by omega)
  have l2 := hs.lo 2 (by omega)
  have l3 := hs.lo 3 (by omega)
  have h0 := hs.hi 0 (by omega)
  have h1 := hs.hi 1 (by omega)
  have h2 := hs.hi 2 (by omega)
  have h3 := hs.hi 3 (by omega)
  have d1 := dig_lt (a := s 0) (A := k 0 + 1) (b := s 1) (m := k 1 + 1) (by omega) (by omega)
  have d2 := dig_lt (a := s 0 * (k 1 + 1) + s 1) (A := (k 0 + 1) * (k 1 + 1)) (b := s 2) (m := k 2 + 1) (by omega) (by omega)
  have d3 := dig_lt (a := (s 0 * (k 1 + 1) + s 1) * (k 2 + 1) + s 2) (A := (k 0 + 1) * (k 1 + 1) * (k 2 + 1)) (b := s 3) (m := k 3 + 1) (by omega) (by omega)
  unfold prP at u6
  refine ⟨?_, d3.2.1, d3.2.2⟩
  unfold idOf idP
  rw [wrap_small (x := k 1 + 1) (by omega), wrap_small (x := k 2 + 1) (by omega), wrap_small (x := k 3 + 1) (by omega), wrap_small (x := s 0) (by omega), wrap_small (x := s 0 * (k 1 + 1)) (by omega), wrap_small (x := s 0 * (k 1 + 1) + s 1) (by omega), wrap_small (x := (s 0 * (k 1 + 1) + s 1) * (k 2 + 1)) (by omega), wrap_small (x := (s 0 * (k 1 + 1) + s 1) * (k 2 + 1) + s 2) (by omega), wrap_small (x := ((s 0 * (k 1 + 1) + s 1) * (k 2 + 1) + s 2) * (k 3 + 1)) (by omega), wrap_small (x := ((s 0 * (k 1 + 1) + s 1) * (k 2 + 1) + s 2) * (k 3 + 1) + s 3) (by omega)]
theorem id_inj {k s r : Nat → Int} (hs : Sand k s) (hr : Sand k r) (e : idP k s = idP k r) : eq4B s r = true := by
  have l1 := hs.lo 1 (by omega)
  have l2 := hs.lo 2 (by omega)
  have l3 := hs.lo 3 (by omega)
  have h1 := hs.hi 1 (by omega)
  have h2 := hs.hi 2 (by omega)
  have h3 := hs.hi 3 (by omega)
  have m1 := hr.lo 1 (by omega)
  have m2 := hr.lo 2 (by omega)
  have m3 := hr.lo 3 (by omega)
  have n1 := hr.hi 1 (by omega)
  have n2 := hr.hi 2 (by omega)
  have n3 := hr.hi 3 (by omega)
  unfold idP at e
  obtain ⟨e, e3⟩ := dig_inj (by omega) (by omega) e
  obtain ⟨e, e2⟩ := dig_inj (by omega) (by omega) e
  obtain ⟨e0, e1⟩ := dig_inj (by omega) (by omega) e
  exact eq4B_iff.2 ⟨e0, e1, e2, e3⟩
theorem id_eq {k s r : Nat → Int} (e : eq4B s r = true) : idP k s = idP k r := by
  obtain ⟨a, b, c, d⟩ := eq4B_iff.1 e
  unfold idP; rw [a, b, c, d]
theorem pigeon : ∀ (P : Nat) (f : Nat → Nat), (∀ i, i ≤ P → f i < P) → ∃ i n, i < n ∧ n ≤ P ∧ f i = f n
  | 0, f, h => absurd (h 0 (Nat.le_refl _)) (Nat.not_lt_zero _)
  | P + 1, f, h => by
    by_cases c : ∃ i, i ≤ P ∧ f i = f (P + 1)
    · obtain ⟨i, hi, e⟩ := c
      exact ⟨i, P + 1, by omega, Nat.le_refl _, e⟩
    · have c' : ∀ i, i ≤ P → f i ≠ f (P + 1) := fun i hi e => c ⟨i, hi, e⟩
      have hl := h (P + 1) (Nat.le_refl _)
      obtain ⟨i, n, a, b, e⟩ := pigeon P (fun i => if f i > f (P + 1) then f i - 1 else f i) (fun i hi => by
        have h1 := c' i hi
        have h2 := h i (by omega)
        split <;> omega)
      refine ⟨i, n, a, by omega, ?_⟩
      have h1 := c' i (by omega)
      have h2 := c' n b
      split at e <;> split at e <;> omega
theorem cycAt_some {k s : Nat → Int} {N : Nat} (hN : ∃ i, i < N ∧ eq4B (sqN k s i) (sqN k s N) = true) : ∀ (f n : Nat), n ≤ N → N - n < f → ∃ r, cycAt k s f n = some r
  | 0, n, hn, hf => absurd hf (Nat.not_lt_zero _)
  | f + 1, n, hn, hf => by
    unfold cycAt
    cases e : (List.range n).find? (fun i => eq4B (sqN k s i) (sqN k s n)) with
    | some i => exact ⟨_, rfl⟩
    | none =>
      have : n ≠ N := by
        intro h
        subst h
        obtain ⟨i, hi, q⟩ := hN
        exact List.find?_eq_none.1 e i (List.mem_range.2 hi) q
      exact cycAt_some hN f (n + 1) (by omega) (by omega)
theorem cyc_ends {k s : Nat → Int} (h : isKitB k = true) (hs : Sand k s) (hp : prodOf k ≤ 3000) : ∃ r, cycAt k s 4000 0 = some r := by
  obtain ⟨_, _, _, _, u5, u6, u7⟩ := pr_all h
  obtain ⟨i, n, a, b, e⟩ := pigeon (prP k).toNat (fun i => (idP k (sqN k s i)).toNat) (fun i _ => by
    have := id_all h (sqN_sand hs i)
    omega)
  have i1 := id_all h (sqN_sand hs i)
  have i2 := id_all h (sqN_sand hs n)
  exact cycAt_some ⟨i, a, id_inj (sqN_sand hs i) (sqN_sand hs n) (by omega)⟩ 4000 0 (by omega) (by omega)
theorem rd_set (L : List Int) (m : Nat) (v x : Int) (h : m < L.length) : rd (L.set m v) x = if x.toNat = m then v else rd L x := by
  unfold rd
  rw [List.getD_eq_getElem?_getD, List.getD_eq_getElem?_getD, List.getElem?_set]
  by_cases c : m = x.toNat
  · subst c; simp [h]
  · rw [if_neg c, if_neg (fun e => c e.symm)]
theorem cyc_spec (a b c d e f g h : Int) (hk : isKitB (v4 a b c d) = true) (hs : Sand (v4 a b c d) (v4 e f g h)) (hp : prodOf (v4 a b c d) ≤ 3000) {i0 n0 : Nat} : ∀ (fu n k : Nat) (L : List Int), cycAt (v4 a b c d) (v4 e f g h) fu n = some (i0, n0) → fu ≤ k → n + fu ≤ 4000 → L.length = (prP (v4 a b c d)).toNat →
    (∀ i, i < n → rd L (idP (v4 a b c d) (sqN (v4 a b c d) (v4 e f g h) i)) = (i : Int)) → (∀ x : Int, 0 ≤ x → x < prP (v4 a b c d) → (∀ i, i < n → idP (v4 a b c d) (sqN (v4 a b c d) (v4 e f g h) i) ≠ x) → rd L x = -1) →
    spec_l4Cycle.l1 k L (tmsN (v4 a b c d) (v4 e f g h) n) (n : Int) a b c d (sqN (v4 a b c d) (v4 e f g h) n 0) (sqN (v4 a b c d) (v4 e f g h) n 1) (sqN (v4 a b c d) (v4 e f g h) n 2) (sqN (v4 a b c d) (v4 e f g h) n 3) = some (tmsN (v4 a b c d) (v4 e f g h) n0, (i0 : Int))
  | 0, n, k, L, hc, hfk, hn4, hL, h1, h2 => by cases hc
  | fu + 1, n, k, L, hc, hfk, hn4, hL, h1, h2 => by
    obtain ⟨k, rfl⟩ : ∃ m, k = m + 1 := ⟨k - 1, by omega⟩
    have S := sqN_sand hs n
    obtain ⟨i1, i2, i3⟩ := id_all hk S
    have I : xL4Id.f a b c d (sqN (v4 a b c d) (v4 e f g h) n 0) (sqN (v4 a b c d) (v4 e f g h) n 1) (sqN (v4 a b c d) (v4 e f g h) n 2) (sqN (v4 a b c d) (v4 e f g h) n 3) = some (idP (v4 a b c d) (sqN (v4 a b c d) (v4 e f g h) n)) := congrArg some i1
    have Q : (isKitB (v4 a b c d) && isSandB (v4 a b c d) (sqN (v4 a b c d) (v4 e f g h) n)) = true := by rw [Bool.and_eq_true]; exact ⟨hk, sandB_c S⟩
    have T : xL4Steady.f a b c d (sqN (v4 a b c d) (v4 e f g h) n 0) (sqN (v4 a b c d) (v4 e f g h) n 1) (sqN (v4 a b c d) (v4 e f g h) n 2) (sqN (v4 a b c d) (v4 e f g h) n 3) = some (sqN (v4 a b c d) (v4 e f g h) (n + 1) 0, sqN (v4 a b c d) (v4 e f g h) (n + 1) 1, sqN (v4 a b c d) (v4 e f g h) (n + 1) 2, sqN (v4 a b c d) (v4 e f g h) (n + 1) 3, stepD (v4 a b c d) (sqN (v4 a b c d) (v4 e f g h) n) (steadySet (v4 a b c d) (sqN (v4 a b c d) (v4 e f g h) n))) := by
      unfold xL4Steady.f
      exact if_pos Q
    unfold cycAt at hc
    simp only [spec_l4Cycle.l1, I, T, Option.bind_some]
    rw [if_pos i2, if_pos (by omega)]
    cases q : (List.range n).find? (fun i => eq4B (sqN (v4 a b c d) (v4 e f g h) i) (sqN (v4 a b c d) (v4 e f g h) n)) with
    | some i =>
      rw [q] at hc
      simp only [Option.some.injEq, Prod.mk.injEq] at hc
      obtain ⟨rfl, rfl⟩ := hc
      have v := h1 i (List.mem_range.1 (List.mem_of_find?_eq_some q))
      rw [id_eq (List.find?_some (p := fun i => eq4B (sqN (v4 a b c d) (v4 e f g h) i) (sqN (v4 a b c d) (v4 e f g h) n)) q)] at v
      rw [if_neg (by omega), if_pos i2, if_pos (by omega), v]
    | none =>
      rw [q] at hc
      have v := h2 _ i2 i3 (fun i hi e' => List.find?_eq_none.1 q i (List.mem_range.2 hi) (id_inj (sqN_sand hs i) S e'))
      rw [if_pos (by omega), if_pos i2, if_pos (by omega), if_pos (by omega), if_pos (by rw [tmsN_len]; omega), if_pos (by rw [tmsN_len]; omega), tmsN_rd _ _ _ _ (Nat.le_refl _), show wrap64 ((n : Int) + 1) = ((n + 1 : Nat) : Int) by unfold wrap64; omega]
      have R := cyc_spec a b c d e f g h hk hs hp fu (n + 1) k (L.set (idP (v4 a b c d) (sqN (v4 a b c d) (v4 e f g h) n)).toNat (n : Int)) hc (by omega) (by omega) (by simpa using hL)
        (fun i hi => by
          have := (id_all hk (sqN_sand hs i)).2
          rw [rd_set _ _ _ _ (by omega)]
          by_cases z : i = n
          · subst z; rw [if_pos rfl]
          · rw [if_neg, h1 i (by omega)]
            intro e'
            exact List.find?_eq_none.1 q i (List.mem_range.2 (by omega)) (id_inj (sqN_sand hs i) S (by omega)))
        (fun x x0 x1 hx => by
          rw [rd_set _ _ _ _ (by omega), if_neg (fun e' => hx n (by omega) (by omega))]
          exact h2 x x0 x1 (fun i hi => hx i (by omega)))
      rw [tmsN_snoc] at R
      exact R
theorem cyc_fill (a b c d e f g h : Int) {r : List Int × Int} (M P : Nat) (hP : P ≤ 3000) (G : ∀ (k : Nat) (L : List Int), M ≤ k → L.length = P → (∀ j : Nat, j < P → rd L (j : Int) = -1) → spec_l4Cycle.l1 k L [0] 0 a b c d e f g h = some r) : ∀ (n k i : Nat) (L : List Int), i + n = P → n + M < k → L.length = P → (∀ j : Nat, j < i → rd L (j : Int) = -1) → spec_l4Cycle.l0 k L [0] 0 (i : Int) a b c d e f g h = some r
  | 0, k, i, L, hi, hk, hL, hj => by
    obtain ⟨k, rfl⟩ : ∃ m, k = m + 1 := ⟨k - 1, by omega⟩
    simp only [spec_l4Cycle.l0]
    rw [if_neg (by omega)]
    exact G k L (by omega) hL (fun j h' => hj j (by omega))
  | n + 1, k, i, L, hi, hk, hL, hj => by
    obtain ⟨k, rfl⟩ : ∃ m, k = m + 1 := ⟨k - 1, by omega⟩
    simp only [spec_l4Cycle.l0]
    rw [if_pos (by omega), if_pos (by omega), show wrap64 ((i : Int) + 1) = ((i + 1 : Nat) : Int) by unfold wrap64; omega, Int.toNat_natCast]
    refine cyc_fill a b c d e f g h M P hP G n k (i + 1) _ (by omega) (by omega) (by simpa using hL) (fun j h' => ?_)
    rw [rd_set _ _ _ _ (by omega)]
    by_cases z : j = i
    · subst z; rw [if_pos (by omega)]
    · rw [if_neg (by omega)]; exact hj j (by omega)
theorem cyc_both (a b c d e f g h : Int) (hk : isKitB (v4 a b c d) = true) (hs : isSandB (v4 a b c d) (v4 e f g h) = true) (hp : prodOf (v4 a b c d) ≤ 3000) : ∃ i0 n0 : Nat, i0 < n0 ∧ n0 < 4000 ∧ cycAt (v4 a b c d) (v4 e f g h) 4000 0 = some (i0, n0) ∧ Ev (fun k => spec_l4Cycle.f k a b c d e f g h) (tmsN (v4 a b c d) (v4 e f g h) n0, (i0 : Int)) := by
  have S : Sand (v4 a b c d) (v4 e f g h) := sand_of hk hs
  obtain ⟨⟨i0, n0⟩, hc⟩ := cyc_ends hk S hp
  have hb := cycAt_le 4000 0 hc
  obtain ⟨_, _, _, _, u5, u6, u7⟩ := pr_all hk
  refine ⟨i0, n0, hb.2.2, by omega, hc, ev_at 7010 fun k hk' => ?_⟩
  unfold spec_l4Cycle.f xL4Many.f
  simp only [Option.bind_some]
  rw [if_pos (by omega), if_pos (by omega), u7]
  refine cyc_fill a b c d e f g h 4000 (prP (v4 a b c d)).toNat (by omega) (fun k L hk2 hL hj => ?_) (prP (v4 a b c d)).toNat k 0 _ (by omega) (by omega) (by simp) (fun j hj => absurd hj (Nat.not_lt_zero j))
  exact cyc_spec a b c d e f g h hk S hp 4000 0 k L hc hk2 (by omega) hL (fun i hi => absurd hi (Nat.not_lt_zero i)) (fun x x0 x1 _ => by
    have := hj x.toNat (by omega)
    rwa [show ((x.toNat : Nat) : Int) = x by omega] at this)
theorem narrow_eq (a b c d e f g h : Int) : impl_isNarrow.f a b c d e f g h = some (isKitB (v4 a b c d) && isSandB (v4 a b c d) (v4 e f g h) && decide (prodOf (v4 a b c d) ≤ 3000)) := by
  unfold impl_isNarrow.f xAreSand.f xProduct.f
  simp only [Option.bind_some]
  cases isKitB (v4 a b c d) && isSandB (v4 a b c d) (v4 e f g h) <;> simp
theorem count_both (a b c d e f g h : Int) : ∃ n ok, Ev (fun k => spec_SteadyCount.f k a b c d e f g h) (n, ok) ∧ impl_SteadyCount.f a b c d e f g h = some (n, ok) := by
  by_cases q : (isKitB (v4 a b c d) && isSandB (v4 a b c d) (v4 e f g h) && decide (prodOf (v4 a b c d) ≤ 3000)) = true
  · have q' := q
    simp only [Bool.and_eq_true, decide_eq_true_eq] at q'
    obtain ⟨⟨q1, q2⟩, q3⟩ := q'
    obtain ⟨i0, n0, h1, h2, h3, h4⟩ := cyc_both a b c d e f g h q1 q2 q3
    refine ⟨(n0 : Int) - (i0 : Int), true, ?_, ?_⟩
    · unfold spec_SteadyCount.f xL4Narrow.f xL2Sand.f
      simp only [Option.bind_some, q1, q2, decide_eq_true q3, Bool.and_true, if_true]
      refine Ev.bind h4 ?_
      refine ev_pure ?_
      simp only [tmsN_len]
      rw [show wrap64 ((((n0 + 1 : Nat)) : Int) - 1) = (n0 : Int) by unfold wrap64; omega, show wrap64 ((n0 : Int) - (i0 : Int)) = (n0 : Int) - (i0 : Int) by unfold wrap64; omega]
    · unfold impl_SteadyCount.f
      rw [narrow_eq, q]
      simp only [Option.bind_some, if_true]
      unfold xCycle.f
      rw [if_pos (by rw [Bool.and_eq_true]; exact ⟨q1, q2⟩), h3]
      rfl
  · have q' : (isKitB (v4 a b c d) && isSandB (v4 a b c d) (v4 e f g h) && decide (prodOf (v4 a b c d) ≤ 3000)) = false := by simpa using q
    refine ⟨0, false, ?_, ?_⟩
    · unfold spec_SteadyCount.f xL4Narrow.f xL2Sand.f
      simp only [Option.bind_some]
      refine ev_same (g := fun _ => some (0, false)) (fun k => ?_) (Ev.now _)
      cases q1 : isKitB (v4 a b c d) <;> cases q2 : isSandB (v4 a b c d) (v4 e f g h) <;> cases q3 : decide (prodOf (v4 a b c d) ≤ 3000) <;> simp_all
    · unfold impl_SteadyCount.f
      rw [narrow_eq, q']
      rfl
theorem steadyCount_law (a b c d e f g h : Int) : ∃ k, laws_FnExactSteadyCount.f k a b c d e f g h = some true := by
  apply Ev.rounds
  unfold laws_FnExactSteadyCount.f xToKit.f xToIntA4.f
  obtain ⟨n, ok, h1, h2⟩ := count_both a b c d e f g h
  simp only [Option.bind_some]
  refine Ev.bind h1 ?_
  exact ev_same (g := fun _ => some true) (fun k => by simp [h2, v4]) (Ev.now _)
theorem cycle_both (a b c d e f g h : Int) : ∃ m n ok, Ev (fun k => spec_SteadyCycle.f k a b c d e f g h) (m, n, ok) ∧ impl_SteadyCycle.f a b c d e f g h = some (m, n, ok) := by
  by_cases q : (isKitB (v4 a b c d) && isSandB (v4 a b c d) (v4 e f g h) && decide (prodOf (v4 a b c d) ≤ 3000)) = true
  · have q' := q
    simp only [Bool.and_eq_true, decide_eq_true_eq] at q'
    obtain ⟨⟨q1, q2⟩, q3⟩ := q'
    obtain ⟨i0, n0, h1, h2, h3, h4⟩ := cyc_both a b c d e f g h q1 q2 q3
    refine ⟨tmN (v4 a b c d) (v4 e f g h) i0, wrap64 (tmN (v4 a b c d) (v4 e f g h) n0 - tmN (v4 a b c d) (v4 e f g h) i0), true, ?_, ?_⟩
    · unfold spec_SteadyCycle.f xL4Narrow.f xL2Sand.f
      simp only [Option.bind_some, q1, q2, decide_eq_true q3, Bool.and_true, if_true]
      refine Ev.bind h4 ?_
      refine ev_pure ?_
      simp only [tmsN_len]
      rw [show wrap64 ((((n0 + 1 : Nat)) : Int) - 1) = (n0 : Int) by unfold wrap64; omega, if_pos (by omega), if_pos (by omega), if_pos (by omega), if_pos (by omega), tmsN_rd _ _ _ _ (by omega), tmsN_rd _ _ _ _ (Nat.le_refl _)]
    · unfold impl_SteadyCycle.f
      rw [narrow_eq, q]
      simp only [Option.bind_some, if_true]
      unfold xCycle.f
      rw [if_pos (by rw [Bool.and_eq_true]; exact ⟨q1, q2⟩), h3]
      rfl
  · have q' : (isKitB (v4 a b c d) && isSandB (v4 a b c d) (v4 e f g h) && decide (prodOf (v4 a b c d) ≤ 3000)) = false := by simpa using q
    refine ⟨0, 0, false, ?_, ?_⟩
    · unfold spec_SteadyCycle.f xL4Narrow.f xL2Sand.f
      simp only [Option.bind_some]
      refine ev_same (g := fun _ => some (0, 0, false)) (fun k => ?_) (Ev.now _)
      cases q1 : isKitB (v4 a b c d) <;> cases q2 : isSandB (v4 a b c d) (v4 e f g h) <;> cases q3 : decide (prodOf (v4 a b c d) ≤ 3000) <;> simp_all
    · unfold impl_SteadyCycle.f
      rw [narrow_eq, q']
      rfl
theorem steadyCycle_law (a b c d e f g h : Int) : ∃ k, laws_FnExactSteadyCycle.f k a b c d e f g h = some true := by
  apply Ev.rounds
  unfold laws_FnExactSteadyCycle.f xToKit.f xToIntA4.f
  obtain ⟨m, n, ok, h1, h2⟩ := cycle_both a b c d e f g h
  simp only [Option.bind_some]
  refine Ev.bind h1 ?_
  exact ev_same (g := fun _ => some true) (fun k => by simp [h2, v4]) (Ev.now _)
end Go.Proofs.Ytekbfekghheejaa
