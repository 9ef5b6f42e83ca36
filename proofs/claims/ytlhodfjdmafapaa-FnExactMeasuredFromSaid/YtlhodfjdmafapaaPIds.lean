/- Numbers of states, sets of glasses: plain laws. No statement of the seat is proved here. -/
import Derived.Test.YtlhodfjdmafapaaPLev
import Derived.Test.YtlhodfjdmafapaaLeaf
import Derived.Test.YtlhodfjdmafapaaWWords
namespace Go.Proofs.Ytlhodfjdmafapaa
open Go.RowKit Go.Proofs.YtlhodfjdmafapaaW.PrintWords
set_option linter.unusedVariables false
set_option linter.unusedSimpArgs false
theorem and_fin : ∀ a s : Fin 16, Go.bits BinOp.andNot IntKind.i64 ((s.val : Nat) : Int) ((a.val : Nat) : Int) = 0 → Go.bits BinOp.and IntKind.i64 ((s.val : Nat) : Int) ((a.val : Nat) : Int) = ((s.val : Nat) : Int) := by decide +kernel
theorem allOf_nat (k : Nat → Int) : ∃ a : Nat, a < 16 ∧ allOf k = (a : Int) := by
  refine ⟨(allOf k).toNat, ?_, ?_⟩ <;> unfold allOf <;> split <;> split <;> split <;> split <;> simp
theorem and_all {k : Nat → Int} {set : Int} (h : isSetB k set = true) : Go.bits BinOp.and IntKind.i64 set (allOf k) = set := by
  unfold isSetB at h
  rw [Bool.and_eq_true, inB_iff, beq_iff_eq] at h
  obtain ⟨⟨h0, h1⟩, h2⟩ := h
  obtain ⟨a, ha, he⟩ := allOf_nat k
  obtain ⟨n, rfl⟩ := Int.eq_ofNat_of_zero_le h0
  rw [he] at h2 ⊢
  exact and_fin ⟨a, ha⟩ ⟨n, by omega⟩ h2
theorem mix_b {v M c s : Int} (h0 : 0 ≤ v) (h1 : v < M) (s0 : 0 ≤ s) (s1 : s < c) : 0 ≤ v * c + s ∧ v * c + s < M * c := by
  have h2 : 0 ≤ v * c := Int.mul_nonneg h0 (by omega)
  have h3 : (v + 1) * c ≤ M * c := Int.mul_le_mul_of_nonneg_right (by omega) (by omega)
  rw [Int.add_mul, Int.one_mul] at h3
  omega
theorem mix_inj {v v' c s s' : Int} (s0 : 0 ≤ s) (s1 : s < c) (t0 : 0 ≤ s') (t1 : s' < c) (h : v * c + s = v' * c + s') : v = v' ∧ s = s' := by
  have a : (v * c + s) / c = v := by
    rw [Int.add_comm, Int.add_mul_ediv_right _ _ (by omega), Int.ediv_eq_zero_of_lt s0 s1, Int.zero_add]
  have b : (v' * c + s') / c = v' := by
    rw [Int.add_comm, Int.add_mul_ediv_right _ _ (by omega), Int.ediv_eq_zero_of_lt t0 t1, Int.zero_add]
  have e : v = v' := by rw [← a, h, b]
  subst e
  exact ⟨rfl, by omega⟩
theorem wrap_big {x : Int} (h : 0 ≤ x) (h2 : x ≤ 4000000000) : wrap64 x = x := by unfold wrap64; omega
theorem mul_le {v c A : Int} (h0 : 0 ≤ v) (h1 : v ≤ A) (c0 : 0 ≤ c) (c1 : c ≤ 31) : 0 ≤ v * c ∧ v * c ≤ A * 31 := by
  refine ⟨Int.mul_nonneg h0 c0, ?_⟩
  exact Int.le_trans (Int.mul_le_mul_of_nonneg_right h1 c0) (Int.mul_le_mul_of_nonneg_left c1 (by omega))
/-- the number of glasses' states, as it is -/
def prodT (k : Nat → Int) : Int := (k 0 + 1) * (k 1 + 1) * (k 2 + 1) * (k 3 + 1)
theorem prod_is {k : Nat → Int} (h : ∀ i, i < 4 → 0 ≤ k i ∧ k i ≤ 30) : prodOf k = prodT k ∧ 1 ≤ prodT k := by
  have h0 := h 0 (by omega)
  have h1 := h 1 (by omega)
  have h2 := h 2 (by omega)
  have h3 := h 3 (by omega)
  have a1 := mul_le (v := k 0 + 1) (c := k 1 + 1) (A := 31) (by omega) (by omega) (by omega) (by omega)
  have a2 := mul_le (v := (k 0 + 1) * (k 1 + 1)) (c := k 2 + 1) (A := 31 * 31) (by omega) (by omega) (by omega) (by omega)
  have a3 := mul_le (v := (k 0 + 1) * (k 1 + 1) * (k 2 + 1)) (c := k 3 + 1) (A := 31 * 31 * 31) (by omega) (by omega) (by omega) (by omega)
  have p1 : 1 ≤ (k 0 + 1) * (k 1 + 1) := Int.mul_pos (by omega) (by omega)
  have p2 : 1 ≤ (k 0 + 1) * (k 1 + 1) * (k 2 + 1) := Int.mul_pos (by omega) (by omega)
  have p3 : 1 ≤ (k 0 + 1) * (k 1 + 1) * (k 2 + 1) * (k 3 + 1) := Int.mul_pos (by omega) (by omega)
  refine ⟨?_, p3⟩
  unfold prodOf prodT
  rw [wrap_big (x := k 0 + 1) (by omega) (by omega), wrap_big (x := k 1 + 1) (by omega) (by omega), wrap_big (x := k 2 + 1) (by omega) (by omega), wrap_big (x := k 3 + 1) (by omega) (by omega),
    wrap_big (x := k 0 + 1) (by omega) (by omega), wrap_big (x := (k 0 + 1) * (k 1 + 1)) (by omega) (by omega), wrap_big (x := (k 0 + 1) * (k 1 + 1) * (k 2 + 1)) (by omega) (by omega), wrap_big (by omega) (by omega)]
def Val (k : Nat → Int) (most : Int) (x : Spot) : Prop := Sand k (fn4 x.1) ∧ 0 ≤ x.2 ∧ x.2 ≤ most
def sid (k : Nat → Int) (x : Spot) : Int := idFrom k x.2 (fn4 x.1)
def sidT (k : Nat → Int) (x : Spot) : Int := (((x.2 * (k 0 + 1) + x.1.1) * (k 1 + 1) + x.1.2.1) * (k 2 + 1) + x.1.2.2.1) * (k 3 + 1) + x.1.2.2.2
theorem sid_is {k : Nat → Int} {most : Int} (hm : most ≤ 40) {x : Spot} (h : Val k most x) : sid k x = sidT k x ∧ 0 ≤ sidT k x ∧ sidT k x < (x.2 + 1) * prodT k := by
  obtain ⟨⟨s0, s1, s2, s3⟩, t⟩ := x
  obtain ⟨hs, t0, t1⟩ := h
  have l0 : 0 ≤ s0 := hs.lo 0 (by omega)
  have l1 : 0 ≤ s1 := hs.lo 1 (by omega)
  have l2 : 0 ≤ s2 := hs.lo 2 (by omega)
  have l3 : 0 ≤ s3 := hs.lo 3 (by omega)
  have u0 : s0 ≤ k 0 := hs.hi 0 (by omega)
  have u1 : s1 ≤ k 1 := hs.hi 1 (by omega)
  have u2 : s2 ≤ k 2 := hs.hi 2 (by omega)
  have u3 : s3 ≤ k 3 := hs.hi 3 (by omega)
  have m0 := hs.top 0 (by omega)
  have m1 := hs.top 1 (by omega)
  have m2 := hs.top 2 (by omega)
  have m3 := hs.top 3 (by omega)
  have t0' : 0 ≤ t := t0
  have t1' : t ≤ most := t1
  have b0 := mix_b (v := t) (M := t + 1) (c := k 0 + 1) (s := s0) t0' (by omega) l0 (by omega)
  have b1 := mix_b (v := t * (k 0 + 1) + s0) (M := (t + 1) * (k 0 + 1)) (c := k 1 + 1) (s := s1) b0.1 b0.2 l1 (by omega)
  have b2 := mix_b (v := (t * (k 0 + 1) + s0) * (k 1 + 1) + s1) (M := (t + 1) * (k 0 + 1) * (k 1 + 1)) (c := k 2 + 1) (s := s2) b1.1 b1.2 l2 (by omega)
  have b3 := mix_b (v := ((t * (k 0 + 1) + s0) * (k 1 + 1) + s1) * (k 2 + 1) + s2) (M := (t + 1) * (k 0 + 1) * (k 1 + 1) * (k 2 + 1)) (c := k 3 + 1) (s := s3) b2.1 b2.2 l3 (by omega)
  have a0 := mul_le (v := t) (c := k 0 + 1) (A := 40) t0' (by omega) (by omega) (by omega)
  have a1 := mul_le (v := t * (k 0 + 1) + s0) (c := k 1 + 1) (A := 40 * 31 + 30) b0.1 (by omega) (by omega) (by omega)
  have a2 := mul_le (v := (t * (k 0 + 1) + s0) * (k 1 + 1) + s1) (c := k 2 + 1) (A := (40 * 31 + 30) * 31 + 30) b1.1 (by omega) (by omega) (by omega)
  have a3 := mul_le (v := ((t * (k 0 + 1) + s0) * (k 1 + 1) + s1) * (k 2 + 1) + s2) (c := k 3 + 1) (A := ((40 * 31 + 30) * 31 + 30) * 31 + 30) b2.1 (by omega) (by omega) (by omega)
  refine ⟨?_, b3.1, ?_⟩
  · show idFrom k t (fn4 (s0, s1, s2, s3)) = (((t * (k 0 + 1) + s0) * (k 1 + 1) + s1) * (k 2 + 1) + s2) * (k 3 + 1) + s3
    unfold idFrom
    show wrap64 (wrap64 (wrap64 (wrap64 (wrap64 (wrap64 (wrap64 (wrap64 (t * wrap64 (k 0 + 1)) + s0) * wrap64 (k 1 + 1)) + s1) * wrap64 (k 2 + 1)) + s2) * wrap64 (k 3 + 1)) + s3) = _
    rw [wrap_big (x := k 0 + 1) (by omega) (by omega), wrap_big (x := k 1 + 1) (by omega) (by omega), wrap_big (x := k 2 + 1) (by omega) (by omega), wrap_big (x := k 3 + 1) (by omega) (by omega),
      wrap_big (x := t * (k 0 + 1)) (by omega) (by omega), wrap_big (x := t * (k 0 + 1) + s0) (by omega) (by omega), wrap_big (x := (t * (k 0 + 1) + s0) * (k 1 + 1)) (by omega) (by omega), wrap_big (x := (t * (k 0 + 1) + s0) * (k 1 + 1) + s1) (by omega) (by omega),
      wrap_big (x := ((t * (k 0 + 1) + s0) * (k 1 + 1) + s1) * (k 2 + 1)) (by omega) (by omega), wrap_big (x := ((t * (k 0 + 1) + s0) * (k 1 + 1) + s1) * (k 2 + 1) + s2) (by omega) (by omega), wrap_big (x := (((t * (k 0 + 1) + s0) * (k 1 + 1) + s1) * (k 2 + 1) + s2) * (k 3 + 1)) (by omega) (by omega), wrap_big (by omega) (by omega)]
  · have e : (t + 1) * prodT k = (t + 1) * (k 0 + 1) * (k 1 + 1) * (k 2 + 1) * (k 3 + 1) := by
      unfold prodT; simp only [Int.mul_assoc]
    show _ < (t + 1) * prodT k
    rw [e]
    exact b3.2
theorem sid_b {k : Nat → Int} {most : Int} (h0 : 0 ≤ most) (hm : most ≤ 40) {x : Spot} (h : Val k most x) (hk : ∀ i, i < 4 → 0 ≤ k i ∧ k i ≤ 30) : 0 ≤ sid k x ∧ sid k x < (most + 1) * prodT k := by
  have a := sid_is hm h
  have b : (x.2 + 1) * prodT k ≤ (most + 1) * prodT k := Int.mul_le_mul_of_nonneg_right (by have := h.2.2; omega) (by have := (prod_is hk).2; omega)
  rw [a.1]
  omega
theorem sid_inj {k : Nat → Int} {most : Int} (hm : most ≤ 40) {x y : Spot} (hx : Val k most x) (hy : Val k most y) (e : sid k x = sid k y) : x = y := by
  rw [(sid_is hm hx).1, (sid_is hm hy).1] at e
  obtain ⟨⟨s0, s1, s2, s3⟩, t⟩ := x
  obtain ⟨⟨r0, r1, r2, r3⟩, u⟩ := y
  have hs := hx.1
  have hr := hy.1
  have l : ∀ (s : Sd), Sand k (fn4 s) → (0 ≤ s.1 ∧ s.1 < k 0 + 1) ∧ (0 ≤ s.2.1 ∧ s.2.1 < k 1 + 1) ∧ (0 ≤ s.2.2.1 ∧ s.2.2.1 < k 2 + 1) ∧ (0 ≤ s.2.2.2 ∧ s.2.2.2 < k 3 + 1) := fun s h =>
    ⟨⟨h.lo 0 (by omega), by have : s.1 ≤ k 0 := h.hi 0 (by omega); omega⟩, ⟨h.lo 1 (by omega), by have : s.2.1 ≤ k 1 := h.hi 1 (by omega); omega⟩, ⟨h.lo 2 (by omega), by have : s.2.2.1 ≤ k 2 := h.hi 2 (by omega); omega⟩, ⟨h.lo 3 (by omega), by have : s.2.2.2 ≤ k 3 := h.hi 3 (by omega); omega⟩⟩
  obtain ⟨p0, p1, p2, p3⟩ := l _ hs
  obtain ⟨q0, q1, q2, q3⟩ := l _ hr
  obtain ⟨e, e3⟩ := mix_inj p3.1 p3.2 q3.1 q3.2 e
  obtain ⟨e, e2⟩ := mix_inj p2.1 p2.2 q2.1 q2.2 e
  obtain ⟨e, e1⟩ := mix_inj p1.1 p1.2 q1.1 q1.2 e
  obtain ⟨e, e0⟩ := mix_inj p0.1 p0.2 q0.1 q0.2 e
  simp only at e e0 e1 e2 e3
  subst e; subst e0; subst e1; subst e2; subst e3
  rfl
theorem few_nats : ∀ (N : Nat) (l : List Nat), l.Nodup → (∀ x ∈ l, x < N) → l.length ≤ N
  | 0, l, _, h => by
    cases l with
    | nil => simp
    | cons a r => exact absurd (h a List.mem_cons_self) (Nat.not_lt_zero a)
  | N + 1, l, hn, h => by
    by_cases q : N ∈ l
    · obtain ⟨s, t, rfl⟩ := List.append_of_mem q
      have hp : (s ++ N :: t).Perm (N :: (s ++ t)) := List.perm_middle
      obtain ⟨a1, a2⟩ := List.nodup_cons.1 (hp.nodup_iff.1 hn)
      have := few_nats N (s ++ t) a2 (fun x hx => by
        have h1 := h x (hp.mem_iff.2 (List.mem_cons_of_mem _ hx))
        have h2 : x ≠ N := fun e => a1 (e ▸ hx)
        omega)
      rw [hp.length_eq, List.length_cons]
      omega
    · have := few_nats N l hn (fun x hx => by
        have h1 := h x hx
        have h2 : x ≠ N := fun e => q (e ▸ hx)
        omega)
      omega
theorem lev_few {k : Nat → Int} {most : Int} (h0 : 0 ≤ most) (hm : most ≤ 40) (hk : ∀ i, i < 4 → 0 ≤ k i ∧ k i ≤ 30) (hp : prodT k ≤ 1000) {M : List Ent} (hn : Nd M) (hi : InK k most M) : M.length ≤ 41000 := by
  have hv : ∀ e ∈ M, Val k most e.1 := fun e he => hi.all e he
  have hb : (most + 1) * prodT k ≤ 41 * 1000 := by
    have := (prod_is hk).2
    exact Int.le_trans (Int.mul_le_mul_of_nonneg_right (by omega : most + 1 ≤ 41) (by omega)) (Int.mul_le_mul_of_nonneg_left hp (by omega))
  have := few_nats 41000 (M.map fun e => (sid k e.1).toNat) (by
    unfold List.Nodup
    rw [List.pairwise_map]
    refine List.Pairwise.imp_of_mem ?_ hn
    intro p q hp hq hne e
    have a := (sid_b h0 hm (hv p hp) hk).1
    have b := (sid_b h0 hm (hv q hq) hk).1
    exact hne (sid_inj hm (hv p hp) (hv q hq) (by omega))) (fun x hx => by
    obtain ⟨e, he, rfl⟩ := List.mem_map.1 hx
    have := sid_b h0 hm (hv e he) hk
    omega)
  simpa using this
end Go.Proofs.Ytlhodfjdmafapaa
