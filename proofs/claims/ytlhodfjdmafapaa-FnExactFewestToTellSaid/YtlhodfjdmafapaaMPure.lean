/- Numbers of states, sets of glasses: plain laws. No statement of the seat is proved here. -/
import Derived.Test.YtlhodfjdmafapaaMMap
import Derived.Test.YtlhodfjdmafapaaMExt
import Derived.Test.YtlhodfjdmafapaaWWords
import Derived.Test.YtlhodfjdmafapaaPEv
import Derived.Test.YtlhodfjdmafapaaQAll2
import Derived.Test.YtlhodfjdmafapaaMTell
import Derived.Test.YtlhodfjdmafapaaQAll1
import Derived.Test.YtlhodfjdmafapaaQAll6
section
namespace Go.Proofs.Ytlhodfjdmafapaa
open Go.RowKit Go.Proofs.YtlhodfjdmafapaaW.PrintWords
set_option linter.unusedVariables false
set_option linter.unusedSimpArgs false
theorem and_fin : ∀ a s : Fin 16, Go.bits BinOp.andNot IntKind.i64 ((s.val : Nat) : Int) ((a.val : Nat) : Int) = 0 → Go.bits BinOp.and IntKind.i64 ((s.val : Nat) : Int) ((a.val : Nat) : Int) = ((s.val : Nat) : Int) := by decide +kernel
theorem allOf_nat (k : Nat → Int) : ∃ a : Nat, a < 16 ∧ allOf k = (a : Int) := by
  refine ⟨(allOf k).toNat, ?_, ?_⟩ <;> unfold allOf <;> split <;> split <;> split <;> split <;> simp
theorem and_all {k : Nat → Int} {set : Int} (h : isSetB k set = true) : Go.bits BinOp.and IntKind.i64 set (allOf k) = set := by
  unfold isSetB at h
  rw [Bool.and_eq_true, inB_iff, beq_iff_eq] at h
  obtain ⟨⟨h0, h1⟩, h2⟩ := h
  obtain ⟨a, ha, he⟩ := allOf_nat k
  obtain ⟨n, rfl⟩ := Int.eq_ofNat_of_zero_le h0
  rw [he] at h2 ⊢
  exact and_fin ⟨a, ha⟩ ⟨n, by omega⟩ h2
theorem mix_b {v M c s : Int} (h0 : 0 ≤ v) (h1 : v < M) (s0 : 0 ≤ s) (s1 : s < c) : 0 ≤ v * c + s ∧ v * c + s < M * c := by
  have h2 : 0 ≤ v * c := Int.mul_nonneg h0 (by omega)
  have h3 : (v + 1) * c ≤ M * c := Int.mul_le_mul_of_nonneg_right (by omega) (by omega)
  rw [Int.add_mul, Int.one_mul] at h3
  omega
theorem mix_inj {v v' c s s' : Int} (s0 : 0 ≤ s) (s1 : s < c) (t0 : 0 ≤ s') (t1 : s' < c) (h : v * c + s = v' * c + s') : v = v' ∧ s = s' := by
  have a : (v * c + s) / c = v := by
    rw [Int.add_comm, Int.add_mul_ediv_right _ _ (by omega), Int.ediv_eq_zero_of_lt s0 s1, Int.zero_add]
  have b : (v' * c + s') / c = v' := by
    rw [Int.add_comm, Int.add_mul_ediv_right _ _ (by omega), Int.ediv_eq_zero_of_lt t0 t1, Int.zero_add]
  have e : v = v' := by rw [← a, h, b]
  subst e
  exact ⟨rfl, by omega⟩
theorem wrap_big {x : Int} (h : 0 ≤ x) (h2 : x ≤ 4000000000) : wrap64 x = x := by unfold wrap64; omega
theorem mul_le {v c A : Int} (h0 : 0 ≤ v) (h1 : v ≤ A) (c0 : 0 ≤ c) (c1 : c ≤ 31) : 0 ≤ v * c ∧ v * c ≤ A * 31 := by
  refine ⟨Int.mul_nonneg h0 c0, ?_⟩
  exact Int.le_trans (Int.mul_le_mul_of_nonneg_right h1 c0) (Int.mul_le_mul_of_nonneg_left c1 (by omega))
/-- the number of glasses' states, as it is -/
def prodT (k : Nat → Int) : Int := (k 0 + 1) * (k 1 + 1) * (k 2 + 1) * (k 3 + 1)
theorem prod_is {k : Nat → Int} (h : ∀ i, i < 4 → 0 ≤ k i ∧ k i ≤ 30) : prodOf k = prodT k ∧ 1 ≤ prodT k := by
  have h0 := h 0 (by omega)
  have h1 := h 1 (by omega)
  have h2 := h 2 (by omega)
  have h3 := h 3 (by omega)
  have a1 := mul_le (v := k 0 + 1) (c := k 1 + 1) (A := 31) (by omega) (by omega) (by omega) (by omega)
  have a2 := mul_le (v := (k 0 + 1) * (k 1 + 1)) (c := k 2 + 1) (A := 31 * 31) (by omega) (by omega) (by omega) (by omega)
  have a3 := mul_le (v := (k 0 + 1) * (k 1 + 1) * (k 2 + 1)) (c := k 3 + 1) (A := 31 * 31 * 31) (by omega) (by omega) (by omega) (by omega)
  have p1 : 1 ≤ (k 0 + 1) * (k 1 + 1) := Int.mul_pos (by omega) (by omega)
  have p2 : 1 ≤ (k 0 + 1) * (k 1 + 1) * (k 2 + 1) := Int.mul_pos (by omega) (by omega)
  have p3 : 1 ≤ (k 0 + 1) * (k 1 + 1) * (k 2 + 1) * (k 3 + 1) := Int.mul_pos (by omega) (by omega)
  refine ⟨?_, p3⟩
  unfold prodOf prodT
  rw [wrap_big (x := k 0 + 1) (by omega) (by omega), wrap_big (x := k 1 + 1) (by omega) (by omega), wrap_big (x := k 2 + 1) (by omega) (by omega), wrap_big (x := k 3 + 1) (by omega) (by omega),
    wrap_big (x := k 0 + 1) (by omega) (by omega), wrap_big (x := (k 0 + 1) * (k 1 + 1)) (by omega) (by omega), wrap_big (x := (k 0 + 1) * (k 1 + 1) * (k 2 + 1)) (by omega) (by omega), wrap_big (by omega) (by omega)]
def Val (k : Nat → Int) (most : Int) (x : Spot) : Prop := Sand k (fn4 x.1) ∧ 0 ≤ x.2 ∧ x.2 ≤ most
def sid (k : Nat → Int) (x : Spot) : Int := idFrom k x.2 (fn4 x.1)
def sidT (k : Nat → Int) (x : Spot) : Int := (((x.2 * (k 0 + 1) + x.1.1) * (k 1 + 1) + x.1.2.1) * (k 2 + 1) + x.1.2.2.1) * (k 3 + 1) + x.1.2.2.2
theorem sid_is {k : Nat → Int} {most : Int} (hm : most ≤ 40) {x : Spot} (h : Val k most x) : sid k x = sidT k x ∧ 0 ≤ sidT k x ∧ sidT k x < (x.2 + 1) * prodT k := by
  obtain ⟨⟨s0, s1, s2, s3⟩, t⟩ := x
  obtain ⟨hs, t0, t1⟩ := h
  have l0 : 0 ≤ s0 := hs.lo 0 (by omega)
  have l1 : 0 ≤ s1 := hs.lo 1 (by omega)
  have l2 : 0 ≤ s2 := hs.lo 2 (by omega)
  have l3 : 0 ≤ s3 := hs.lo 3 (by omega)
  have u0 : s0 ≤ k 0 := hs.hi 0 (by omega)
  have u1 : s1 ≤ k 1 := hs.hi 1 (by omega)
  have u2 : s2 ≤ k 2 := hs.hi 2 (by omega)
  have u3 : s3 ≤ k 3 := hs.hi 3 (by omega)
  have m0 := hs.top 0 (by omega)
  have m1 := hs.top 1 (by omega)
  have m2 := hs.top 2 (by omega)
  have m3 := hs.top 3 (by omega)
  have t0' : 0 ≤ t := t0
  have t1' : t ≤ most := t1
  have b0 := mix_b (v := t) (M := t + 1) (c := k 0 + 1) (s := s0) t0' (by omega) l0 (by omega)
  have b1 := mix_b (v := t * (k 0 + 1) + s0) (M := (t + 1) * (k 0 + 1)) (c := k 1 + 1) (s := s1) b0.1 b0.2 l1 (by omega)
  have b2 := mix_b (v := (t * (k 0 + 1) + s0) * (k 1 + 1) + s1) (M := (t + 1) * (k 0 + 1) * (k 1 + 1)) (c := k 2 + 1) (s := s2) b1.1 b1.2 l2 (by omega)
  have b3 := mix_b (v := ((t * (k 0 + 1) + s0) * (k 1 + 1) + s1) * (k 2 + 1) + s2) (M := (t + 1) * (k 0 + 1) * (k 1 + 1) * (k 2 + 1)) (c := k 3 + 1) (s := s3) b2.1 b2.2 l3 (by omega)
  have a0 := mul_le (v := t) (c := k 0 + 1) (A := 40) t0' (by omega) (by omega) (by omega)
  have a1 := mul_le (v := t * (k 0 + 1) + s0) (c := k 1 + 1) (A := 40 * 31 + 30) b0.1 (by omega) (by omega) (by omega)
  have a2 := mul_le (v := (t * (k 0 + 1) + s0) * (k 1 + 1) + s1) (c := k 2 + 1) (A := (40 * 31 + 30) * 31 + 30) b1.1 (by omega) (by omega) (by omega)
  have a3 := mul_le (v := ((t * (k 0 + 1) + s0) * (k 1 + 1) + s1) * (k 2 + 1) + s2) (c := k 3 + 1) (A := ((40 * 31 + 30) * 31 + 30) * 31 + 30) b2.1 (by omega) (by omega) (by omega)
  refine ⟨?_, b3.1, ?_⟩
  · show idFrom k t (fn4 (s0, s1, s2, s3)) = (((t * (k 0 + 1) + s0) * (k 1 + 1) + s1) * (k 2 + 1) + s2) * (k 3 + 1) + s3
    unfold idFrom
    show wrap64 (wrap64 (wrap64 (wrap64 (wrap64 (wrap64 (wrap64 (wrap64 (t * wrap64 (k 0 + 1)) + s0) * wrap64 (k 1 + 1)) + s1) * wrap64 (k 2 + 1)) + s2) * wrap64 (k 3 + 1)) + s3) = _
    rw [wrap_big (x := k 0 + 1) (by omega) (by omega), wrap_big (x := k 1 + 1) (by omega) (by omega), wrap_big (x := k 2 + 1) (by omega) (by omega), wrap_big (x := k 3 + 1) (by omega) (by omega),
      wrap_big (x := t * (k 0 + 1)) (by omega) (by omega), wrap_big (x := t * (k 0 + 1) + s0) (by omega) (by omega), wrap_big (x := (t * (k 0 + 1) + s0) * (k 1 + 1)) (by omega) (by omega), wrap_big (x := (t * (k 0 + 1) + s0) * (k 1 + 1) + s1) (by omega) (by omega),
      wrap_big (x := ((t * (k 0 + 1) + s0) * (k 1 + 1) + s1) * (k 2 + 1)) (by omega) (by omega), wrap_big (x := ((t * (k 0 + 1) + s0) * (k 1 + 1) + s1) * (k 2 + 1) + s2) (by omega) (by omega), wrap_big (x := (((t * (k 0 + 1) + s0) * (k 1 + 1) + s1) * (k 2 + 1) + s2) * (k 3 + 1)) (by omega) (by omega), wrap_big (by omega) (by omega)]
  · have e : (t + 1) * prodT k = (t + 1) * (k 0 + 1) * (k 1 + 1) * (k 2 + 1) * (k 3 + 1) := by
      unfold prodT; simp only [Int.mul_assoc]
    show _ < (t + 1) * prodT k
    rw [e]
    exact b3.2
theorem sid_b {k : Nat → Int} {most : Int} (h0 : 0 ≤ most) (hm : most ≤ 40) {x : Spot} (h : Val k most x) (hk : ∀ i, i < 4 → 0 ≤ k i ∧ k i ≤ 30) : 0 ≤ sid k x ∧ sid k x < (most + 1) * prodT k := by
  have a := sid_is hm h
  have b : (x.2 + 1) * prodT k ≤ (most + 1) * prodT k := Int.mul_le_mul_of_nonneg_right (by have := h.2.2; omega) (by have := (prod_is hk).2; omega)
  rw [a.1]
  omega
theorem sid_inj {k : Nat → Int} {most : Int} (hm : most ≤ 40) {x y : Spot} (hx : Val k most x) (hy : Val k most y) (e : sid k x = sid k y) : x = y := by
  rw [(sid_is hm hx).1, (sid_is hm hy).1] at e
  obtain ⟨⟨s0, s1, s2, s3⟩, t⟩ := x
  obtain ⟨⟨r0, r1, r2, r3⟩, u⟩ := y
  have hs := hx.1
  have hr := hy.1
  have l : ∀ (s : Sd), Sand k (fn4 s) → (0 ≤ s.1 ∧ s.1 < k 0 + 1) ∧ (0 ≤ s.2.1 ∧ s.2.1 < k 1 + 1) ∧ (0 ≤ s.2.2.1 ∧ s.2.2.1 < k 2 + 1) ∧ (0 ≤ s.2.2.2 ∧ s.2.2.2 < k 3 + 1) := fun s h =>
    ⟨⟨h.lo 0 (by omega), by have : s.1 ≤ k 0 := h.hi 0 (by omega); omega⟩, ⟨h.lo 1 (by omega), by have : s.2.1 ≤ k 1 := h.hi 1 (by omega); omega⟩, ⟨h.lo 2 (by omega), by have : s.2.2.1 ≤ k 2 := h.hi 2 (by omega); omega⟩, ⟨h.lo 3 (by omega), by have : s.2.2.2 ≤ k 3 := h.hi 3 (by omega); omega⟩⟩
  obtain ⟨p0, p1, p2, p3⟩ := l _ hs
  obtain ⟨q0, q1, q2, q3⟩ := l _ hr
  obtain ⟨e, e3⟩ := mix_inj p3.1 p3.2 q3.1 q3.2 e
  obtain ⟨e, e2⟩ := mix_inj p2.1 p2.2 q2.1 q2.2 e
  obtain ⟨e, e1⟩ := mix_inj p1.1 p1.2 q1.1 q1.2 e
  obtain ⟨e, e0⟩ := mix_inj p0.1 p0.2 q0.1 q0.2 e
  simp only at e e0 e1 e2 e3
  subst e; subst e0; subst e1; subst e2; subst e3
  rfl
theorem few_nats : ∀ (N : Nat) (l : List Nat), l.Nodup → (∀ x ∈ l, x < N) → l.length ≤ N
  | 0, l, _, h => by
    cases l with
    | nil => simp
    | cons a r => exact absurd (h a List.mem_cons_self) (Nat.not_lt_zero a)
  | N + 1, l, hn, h => by
    by_cases q : N ∈ l
    · obtain ⟨s, t, rfl⟩ := List.append_of_mem q
      have hp : (s ++ N :: t).Perm (N :: (s ++ t)) := List.perm_middle
      obtain ⟨a1, a2⟩ := List.nodup_cons.1 (hp.nodup_iff.1 hn)
      have := few_nats N (s ++ t) a2 (fun x hx => by
        have h1 := h x (hp.mem_iff.2 (List.mem_cons_of_mem _ hx))
        have h2 : x ≠ N := fun e => a1 (e ▸ hx)
        omega)
      rw [hp.length_eq, List.length_cons]
      omega
    · have := few_nats N l hn (fun x hx => by
        have h1 := h x hx
        have h2 : x ≠ N := fun e => q (e ▸ hx)
        omega)
      omega
theorem lev_few {k : Nat → Int} {most : Int} (h0 : 0 ≤ most) (hm : most ≤ 40) (hk : ∀ i, i < 4 → 0 ≤ k i ∧ k i ≤ 30) (hp : prodT k ≤ 1000) {M : List Ent} (hn : Nd M) (hi : InK k most M) : M.length ≤ 41000 := by
  have hv : ∀ e ∈ M, Val k most e.1 := fun e he => hi.all e he
  have hb : (most + 1) * prodT k ≤ 41 * 1000 := by
    have := (prod_is hk).2
    exact Int.le_trans (Int.mul_le_mul_of_nonneg_right (by omega : most + 1 ≤ 41) (by omega)) (Int.mul_le_mul_of_nonneg_left hp (by omega))
  have := few_nats 41000 (M.map fun e => (sid k e.1).toNat) (by
    unfold List.Nodup
    rw [List.pairwise_map]
    refine List.Pairwise.imp_of_mem ?_ hn
    intro p q hp hq hne e
    have a := (sid_b h0 hm (hv p hp) hk).1
    have b := (sid_b h0 hm (hv q hq) hk).1
    exact hne (sid_inj hm (hv p hp) (hv q hq) (by omega))) (fun x hx => by
    obtain ⟨e, he, rfl⟩ := List.mem_map.1 hx
    have := sid_b h0 hm (hv e he) hk
    omega)
  simpa using this
end Go.Proofs.Ytlhodfjdmafapaa
end
section
namespace Go.Proofs.Ytlhodfjdmafapaa
open Go.RowKit Go.Proofs.YtlhodfjdmafapaaW.PrintWords Go.Proofs.YtlhodfjdmafapaaW.PrintLast Go.Proofs.Ytlhodfjdmafapaa.QAll
set_option linter.unusedVariables false
set_option linter.unusedSimpArgs false
def toS (b : Bool) (e : Ent) : S83 := ⟨e.1.2, ⟨e.1.1.1, e.1.1.2.1, e.1.1.2.2.1, e.1.1.2.2.2⟩, if b = true then e.2.2 else e.2.1⟩
theorem sand_isB {k s : Nat → Int} (h : Sand k s) : isSandB k s = true := by
  simp only [isSandB, Bool.and_eq_true, inB_iff]
  exact ⟨⟨⟨⟨h.lo 0 (by omega), h.hi 0 (by omega)⟩, ⟨h.lo 1 (by omega), h.hi 1 (by omega)⟩⟩, ⟨h.lo 2 (by omega), h.hi 2 (by omega)⟩⟩, ⟨h.lo 3 (by omega), h.hi 3 (by omega)⟩⟩
theorem bits_fin6 : ∀ n : Fin 16, spec_l3Bits.f 6 ((n.val : Nat) : Int) = some (ones ((n.val : Nat) : Int)) := by decide +kernel
theorem bits_ev {x : Int} (h : 0 ≤ x ∧ x ≤ 15) : Ev (fun f => spec_l3Bits.f f x) (ones x) := by
  obtain ⟨n, rfl⟩ := Int.eq_ofNat_of_zero_le h.1
  exact Ev.of (fun k => spec_l3Bits.mono _ k) (bits_fin6 ⟨n, by omega⟩)
theorem insP_absent {M : List Ent} {p : Ent} (h : ∀ q ∈ M, q.1 ≠ p.1) : insP M p = M ++ [p] := by
  induction M with
  | nil => rfl
  | cons a r ih =>
    unfold insP
    rw [if_neg (h a List.mem_cons_self), ih (fun q hq => h q (List.mem_cons_of_mem _ hq))]
    rfl
theorem insP_at {p q : Ent} : ∀ {M : List Ent} (_ : Nd M) (j : Nat), M[j]? = some q → q.1 = p.1 → insP M p = M.set j (q.1, mgP q.2 p.2)
  | [], _, j, h, _ => by simp at h
  | a :: r, hn, 0, h, e => by
    simp only [List.getElem?_cons_zero, Option.some.injEq] at h
    subst h
    unfold insP
    rw [if_pos e]; rfl
  | a :: r, hn, j + 1, h, e => by
    simp only [List.getElem?_cons_succ] at h
    obtain ⟨h1, h2⟩ := List.pairwise_cons.1 hn
    have ha : a.1 ≠ p.1 := fun q' => h1 q (List.mem_of_getElem? h) (q'.trans e.symm)
    unfold insP
    rw [if_neg ha, insP_at h2 j h e]; rfl
theorem insP_in {k : Nat → Int} {most : Int} {M : List Ent} (h : InK k most M) {p : Ent} (hp : Val k most p.1) : InK k most (insP M p) := foldIns_in [p] h (fun e he => by rw [List.mem_singleton.1 he]; exact hp)
/-- the places of states -/
structure Pl (k : Nat → Int) (most : Int) (M : List Ent) (pl : List Int) : Prop where
  len : (pl.length : Int) = (most + 1) * prodT k
  at_ : ∀ (j : Nat) (q : Ent), M[j]? = some q → rd pl (sid k q.1) = (j : Int) + 1
  no : ∀ (x : Spot), Val k most x → (∀ q ∈ M, q.1 ≠ x) → rd pl (sid k x) = 0
theorem rd_set_same {pl : List Int} {i : Int} {v : Int} (h0 : 0 ≤ i) (h1 : i < (pl.length : Int)) : rd (pl.set i.toNat v) i = v := by
  unfold rd
  rw [List.getD_eq_getElem?_getD, List.getElem?_set_self (by omega)]; rfl
theorem rd_set_ne {pl : List Int} {i j : Int} {v : Int} (h0 : 0 ≤ i) (h1 : 0 ≤ j) (h : i ≠ j) : rd (pl.set i.toNat v) j = rd pl j := by
  unfold rd
  rw [List.getD_eq_getElem?_getD, List.getElem?_set_ne (by omega), List.getD_eq_getElem?_getD]
section
variable {k : Nat → Int} {most : Int} (m0 : 0 ≤ most) (m1 : most ≤ 40) (hk : ∀ i, i < 4 → 0 ≤ k i ∧ k i ≤ 30)
include m0 m1 hk
theorem Pl.snoc {M : List Ent} {pl : List Int} (h : Pl k most M pl) (hi : InK k most M) {p : Ent} (hp : Val k most p.1) (hn : ∀ q ∈ M, q.1 ≠ p.1) : Pl k most (M ++ [p]) (pl.set (sid k p.1).toNat ((M.length : Int) + 1)) := by
  have hb := sid_b m0 m1 hp hk
  refine ⟨by simp [h.len], fun j q hq => ?_, fun x hx hno => ?_⟩
  · by_cases c : j < M.length
    · rw [List.getElem?_append_left c] at hq
      have hm := List.mem_of_getElem? hq
      have hb2 := sid_b m0 m1 (hi.all q hm) hk
      rw [rd_set_ne hb.1 hb2.1 (fun e => hn q hm (sid_inj m1 (hi.all q hm) hp e.symm))]
      exact h.at_ j q hq
    · by_cases c2 : j = M.length
      · subst c2
        rw [List.getElem?_append_right (Nat.le_refl _), Nat.sub_self] at hq
        simp only [List.getElem?_cons_zero, Option.some.injEq] at hq
        subst hq
        exact rd_set_same hb.1 (by rw [h.len]; exact hb.2)
      · rw [List.getElem?_eq_none (by simp; omega)] at hq
        cases hq
  · have hb2 := sid_b m0 m1 hx hk
    rw [rd_set_ne hb.1 hb2.1 (fun e => hno p (by simp) (sid_inj m1 hp hx e))]
    exact h.no x hx (fun q hq => hno q (List.mem_append_left _ hq))
omit m0 m1 hk in
theorem Pl.keep {M M' : List Ent} {pl : List Int} (h : Pl k most M pl) (e : M'.map (·.1) = M.map (·.1)) : Pl k most M' pl := by
  refine ⟨h.len, fun j q hq => ?_, fun x hx hno => ?_⟩
  · have h1 : (M'.map (·.1))[j]? = some q.1 := by rw [List.getElem?_map, hq]; rfl
    rw [e, List.getElem?_map, Option.map_eq_some_iff] at h1
    obtain ⟨q', h2, h3⟩ := h1
    rw [← h3]
    exact h.at_ j q' h2
  · refine h.no x hx (fun q hq => ?_)
    have h1 : q.1 ∈ M'.map (·.1) := by rw [e]; exact List.mem_map.2 ⟨q, hq, rfl⟩
    obtain ⟨q', h2, h3⟩ := List.mem_map.1 h1
    rw [← h3]
    exact hno q' h2
end
theorem set_keys {M : List Ent} {j : Nat} {q : Ent} {v : Int × Int} (h : M[j]? = some q) : (M.set j (q.1, v)).map (·.1) = M.map (·.1) := by
  apply List.ext_getElem?
  intro i
  rw [List.map_set, List.getElem?_set, List.getElem?_map]
  by_cases e : j = i
  · subst e
    obtain ⟨hl, he⟩ := List.getElem?_eq_some_iff.1 h
    rw [if_pos rfl, if_pos (by simpa using hl), h]; rfl
  · rw [if_neg e]
/-- all that the loops keep -/
structure Gd (k : Nat → Int) (most : Int) (M : List Ent) (pl : List Int) : Prop where
  nd : Nd M
  ink : InK k most M
  pl : Pl k most M pl
  tu : ∀ e ∈ M, 0 ≤ e.2.2 ∧ e.2.2 ≤ 48
section
variable (a b c d : Int) (most : Int) (m0 : 0 ≤ most) (m1 : most ≤ 40) (hk : ∀ i, i < 4 → 0 ≤ v4 a b c d i ∧ v4 a b c d i ≤ 30) (hkit : isKitB (v4 a b c d) = true) (hpr : prodT (v4 a b c d) ≤ 1000)
include m0 m1 hk hpr
theorem j3_ev (bl : Bool) (LS : List S83) (idx set : Int) (M : List Ent) (pl : List Int) (hg : Gd (v4 a b c d) most M pl) (p : Ent) (hp : Val (v4 a b c d) most p.1) (ht : 0 ≤ p.2.2 ∧ p.2.2 ≤ 48) (r : List S83)
    (hK : ∀ pl', Gd (v4 a b c d) most (insP M p) pl' → Ev (fun f => spec_l3Next.l1 f LS most bl ((insP M p).map (toS bl)) pl' idx (wrap64 (set + 1)) a b c d) r) :
    Ev (fun f => spec_l3Next.j3 f LS most bl (M.map (toS bl)) pl idx set p.1.2 (if bl = true then p.2.2 else p.2.1) a b c d p.1.1.1 p.1.1.2.1 p.1.1.2.2.1 p.1.1.2.2.2) r := by
  have hb := sid_b m0 m1 hp hk
  have hfew := lev_few m0 m1 hk hpr hg.nd hg.ink
  have hid : xL3Id.f a b c d p.1.2 p.1.1.1 p.1.1.2.1 p.1.1.2.2.1 p.1.1.2.2.2 = some (sid (v4 a b c d) p.1) := rfl
  have ht' : ∀ e ∈ insP M p, 0 ≤ e.2.2 ∧ e.2.2 ≤ 48 := foldIns_turns [p] hg.tu (fun e he => by rw [List.mem_singleton.1 he]; exact ht)
  refine Ev.step (f := fun f => _) (fun f => by simp only [spec_l3Next.j3]; rfl) ?_
  rw [hid]
  simp only [Option.bind_some]
  refine ev_pos hb.1 (ev_pos (by rw [hg.pl.len]; exact hb.2) ?_)
  cases hc : getA M p.1 with
  | none =>
    have hn := getA_none hc
    rw [hg.pl.no p.1 hp hn]
    refine ev_pos (by trivial) (ev_pos (by rw [List.length_map]; omega) ?_)
    have e1 := insP_absent hn
    have := hK _ ⟨insP_nd hg.nd p, insP_in hg.ink hp, e1 ▸ hg.pl.snoc m0 m1 hk hg.ink hp hn, ht'⟩
    rw [e1, List.map_append] at this
    have e2 : (((M.map (toS bl) ++ [toS bl p]).length : Nat) : Int) = (M.length : Int) + 1 := by simp
    simp only [List.map_cons, List.map_nil] at this
    rw [← e2] at this
    exact this
  | some o =>
    have hm := getA_some hc
    obtain ⟨j, hj⟩ := List.getElem?_of_mem hm
    have hjl : j < M.length := (List.getElem?_eq_some_iff.1 hj).1
    have hr := hg.pl.at_ j _ hj
    simp only at hr
    rw [hr]
    have e1 : insP M p = M.set j (p.1, mgP o p.2) := insP_at hg.nd j hj rfl
    have hw : wrap64 ((j : Int) + 1 - 1) = (j : Int) := by unfold wrap64; omega
    have hrd : rd_T83 (M.map (toS bl)) (j : Int) = toS bl (p.1, o) := by
      simp [rd_T83, List.getD_eq_getElem?_getD, hj]
    have := hK pl ⟨insP_nd hg.nd p, insP_in hg.ink hp, e1 ▸ hg.pl.keep (set_keys (q := (p.1, o)) hj), ht'⟩
    refine ev_neg (by omega) ?_
    rw [hw, hrd]
    cases bl with
    | true =>
      refine ev_pos (by trivial) (ev_pos (by omega) (ev_pos (by rw [List.length_map]; omega) ?_))
      have hl : spec_l1Least.f (toS true (p.1, o)).f2 p.2.2 = some (min o.2 p.2.2) := by
        show spec_l1Least.f o.2 p.2.2 = _
        unfold spec_l1Least.f
        split
        · congr 1; omega
        · congr 1; omega
      rw [if_pos rfl, hl]
      simp only [Option.bind_some]
      rw [e1, List.map_set] at this
      exact this
    | false =>
      refine ev_neg (by simp) (ev_pos (by omega) (ev_pos (by rw [List.length_map]; omega) ?_))
      rw [e1, List.map_set] at this
      exact this
include hkit
theorem l1_ev (bl : Bool) (L : List Ent) (hL : InK (v4 a b c d) most L) (hT : ∀ e ∈ L, 0 ≤ e.2.2 ∧ e.2.2 ≤ 44) (idx : Nat) (e : Ent) (he : L[idx]? = some e) (r : List S83)
    (hK : ∀ M' pl', Gd (v4 a b c d) most M' pl' → True) :
    ∀ (dd i : Nat) (M : List Ent) (pl : List Int), i + dd = 16 → Gd (v4 a b c d) most M pl →
    (∀ pl', Gd (v4 a b c d) most (((((List.range' i dd).map fun (j : Nat) => (j : Int)).filter (isSetB (v4 a b c d))).flatMap (con1 (v4 a b c d) most e)).foldl insP M) pl' → Ev (fun f => spec_l3Next.l0 f (L.map (toS bl)) most bl ((((((List.range' i dd).map fun (j : Nat) => (j : Int)).filter (isSetB (v4 a b c d))).flatMap (con1 (v4 a b c d) most e)).foldl insP M).map (toS bl)) pl' (wrap64 ((idx : Int) + 1)) a b c d) r) →
    Ev (fun f => spec_l3Next.l1 f (L.map (toS bl)) most bl (M.map (toS bl)) pl (idx : Int) (i : Int) a b c d) r
  | 0, i, M, pl, hi, hg, hK => by
    refine Ev.step (f := fun f => _) (fun f => by simp only [spec_l3Next.l1]; rfl) ?_
    refine ev_neg (by omega) ?_
    exact hK pl (by simpa using hg)
  | dd + 1, i, M, pl, hi, hg, hK => by
    have hlen : idx < L.length := (List.getElem?_eq_some_iff.1 he).1
    have hrd : rd_T83 (L.map (toS bl)) (idx : Int) = toS bl e := by
      simp [rd_T83, List.getD_eq_getElem?_getD, he]
    have hem := List.mem_of_getElem? he
    obtain ⟨hs, ht0, ht1⟩ := hL.all e hem
    have hte := hT e hem
    have hall : xL2All.f a b c d = some (allOf (v4 a b c d)) := rfl
    have hset : xL2Set.f a b c d (i : Int) = some (isSetB (v4 a b c d) (i : Int)) := rfl
    have hq : (isKitB (v4 a b c d) && isSandB (v4 a b c d) (fn4 e.1.1)) = true := by rw [hkit, sand_isB hs]; rfl
    have hstep : ∀ x, xL2Step.f a b c d e.1.1.1 e.1.1.2.1 e.1.1.2.2.1 e.1.1.2.2.2 x = some (stepS (v4 a b c d) (fn4 e.1.1) x 0, stepS (v4 a b c d) (fn4 e.1.1) x 1, stepS (v4 a b c d) (fn4 e.1.1) x 2, stepS (v4 a b c d) (fn4 e.1.1) x 3, stepD (v4 a b c d) (fn4 e.1.1) x) := fun x => if_pos hq
    have hw : wrap64 ((i : Int) + 1) = ((i + 1 : Nat) : Int) := by unfold wrap64; omega
    refine Ev.step (f := fun f => _) (fun f => by simp only [spec_l3Next.l1]; rfl) ?_
    refine ev_pos (by omega) (ev_pos (by omega) (ev_pos (by rw [List.length_map]; omega) ?_))
    rw [hall, hrd]
    simp only [Option.bind_some, toS]
    rw [hstep, hset]
    simp only [Option.bind_some]
    have nextSame : (((List.range' (i + 1) dd).map fun (j : Nat) => (j : Int)).filter (isSetB (v4 a b c d))).flatMap (con1 (v4 a b c d) most e) = (((List.range' i (dd + 1)).map fun (j : Nat) => (j : Int)).filter (isSetB (v4 a b c d))).flatMap (con1 (v4 a b c d) most e) → Ev (fun f => spec_l3Next.l1 f (L.map (toS bl)) most bl (M.map (toS bl)) pl (idx : Int) ((i + 1 : Nat) : Int) a b c d) r := fun E =>
      l1_ev bl L hL hT idx e he r (fun _ _ _ => trivial) dd (i + 1) M pl (by omega) hg (by rw [E]; exact hK)
    cases hb : isSetB (v4 a b c d) (i : Int)
    · refine ev_neg (by simp) ?_
      refine Ev.step (f := fun f => _) (fun f => by simp only [spec_l3Next.j2]; rfl) ?_
      refine ev_pos (by trivial) ?_
      rw [hw]
      exact nextSame (by simp [List.range'_succ, hb])
    · refine ev_pos (by trivial) ?_
      rw [and_all hb]
      have hd := hs.stepD (i : Int)
      have htw : wrap64 (e.1.2 + stepD (v4 a b c d) (fn4 e.1.1) (i : Int)) = e.1.2 + stepD (v4 a b c d) (fn4 e.1.1) (i : Int) := wrap_big (by omega) (by omega)
      simp only [htw]
      by_cases hz : stepD (v4 a b c d) (fn4 e.1.1) (i : Int) = 0
      · refine ev_pos hz ?_
        refine Ev.step (f := fun f => _) (fun f => by simp only [spec_l3Next.j2]; rfl) ?_
        refine ev_pos (by trivial) ?_
        rw [hw]
        refine nextSame ?_
        rw [List.range'_succ, List.map_cons, List.filter_cons_of_pos hb, List.flatMap_cons, con1_none (.inl hz), List.nil_append]
      · refine ev_neg hz ?_
        refine Ev.step (f := fun f => _) (fun f => by simp only [spec_l3Next.j2]; rfl) ?_
        by_cases hf : most < e.1.2 + stepD (v4 a b c d) (fn4 e.1.1) (i : Int)
        · refine ev_pos (decide_eq_true hf) ?_
          rw [hw]
          refine nextSame ?_
          rw [List.range'_succ, List.map_cons, List.filter_cons_of_pos hb, List.flatMap_cons, con1_none (.inr hf), List.nil_append]
        · refine ev_neg (by simp; omega) ?_
          have hcon := con1_some (k := v4 a b c d) (most := most) (e := e) (set := (i : Int)) (fun h => h.elim hz hf)
          obtain ⟨p, hp⟩ : ∃ p : Ent, p = ((tup4 (stepS (v4 a b c d) (fn4 e.1.1) (i : Int)), e.1.2 + stepD (v4 a b c d) (fn4 e.1.1) (i : Int)), (e.2.1, e.2.2 + ones (i : Int))) := ⟨_, rfl⟩
          rw [← hp] at hcon
          have ho := ones_b (i : Int)
          have hpv : Val (v4 a b c d) most p.1 := by
            rw [hp]
            exact ⟨sand_tup (hs.step (i : Int)), by show 0 ≤ e.1.2 + _; omega, by show e.1.2 + _ ≤ most; omega⟩
          have hpt : 0 ≤ p.2.2 ∧ p.2.2 ≤ 48 := by rw [hp]; show 0 ≤ e.2.2 + ones (i : Int) ∧ e.2.2 + ones (i : Int) ≤ 48; omega
          have hj3 : Ev (fun f => spec_l3Next.j3 f (L.map (toS bl)) most bl (M.map (toS bl)) pl (idx : Int) (i : Int) p.1.2 (if bl = true then p.2.2 else p.2.1) a b c d p.1.1.1 p.1.1.2.1 p.1.1.2.2.1 p.1.1.2.2.2) r := by
            refine j3_ev a b c d most m0 m1 hk hpr bl _ _ _ M pl hg p hpv hpt r (fun pl' hg' => ?_)
            rw [hw]
            refine l1_ev bl L hL hT idx e he r (fun _ _ _ => trivial) dd (i + 1) _ pl' (by omega) hg' ?_
            have E : (((List.range' i (dd + 1)).map fun (j : Nat) => (j : Int)).filter (isSetB (v4 a b c d))).flatMap (con1 (v4 a b c d) most e) = p :: (((List.range' (i + 1) dd).map fun (j : Nat) => (j : Int)).filter (isSetB (v4 a b c d))).flatMap (con1 (v4 a b c d) most e) := by
              rw [List.range'_succ, List.map_cons, List.filter_cons_of_pos hb, List.flatMap_cons, hcon]; rfl
            rw [E, List.foldl_cons] at hK
            exact hK
          rw [hp] at hj3
          cases bl with
          | true =>
            refine ev_pos (by trivial) ?_
            refine Ev.bind (bits_ev (x := (i : Int)) ⟨by omega, by omega⟩) ?_
            rw [show wrap64 ((if true = true then e.2.2 else e.2.1) + ones (i : Int)) = e.2.2 + ones (i : Int) from wrap_big (by show 0 ≤ e.2.2 + _; omega) (by show e.2.2 + _ ≤ _; omega)]
            exact hj3
          | false =>
            refine ev_neg (by simp) ?_
            exact hj3
theorem l0_ev (bl : Bool) (L : List Ent) (hL : InK (v4 a b c d) most L) (hT : ∀ e ∈ L, 0 ≤ e.2.2 ∧ e.2.2 ≤ 44) (hlen : L.length ≤ 41000) :
    ∀ (dd i : Nat) (M : List Ent) (pl : List Int), i + dd = L.length → Gd (v4 a b c d) most M pl →
    Ev (fun f => spec_l3Next.l0 f (L.map (toS bl)) most bl (M.map (toS bl)) pl (i : Int) a b c d) ((((L.drop i).flatMap (con (v4 a b c d) most)).foldl insP M).map (toS bl))
  | 0, i, M, pl, hi, hg => by
    refine Ev.step (f := fun f => _) (fun f => by simp only [spec_l3Next.l0]; rfl) ?_
    refine ev_neg (by rw [List.length_map]; omega) ?_
    rw [List.drop_eq_nil_of_le (by omega)]
    exact Ev.now _
  | dd + 1, i, M, pl, hi, hg => by
    refine Ev.step (f := fun f => _) (fun f => by simp only [spec_l3Next.l0]; rfl) ?_
    refine ev_pos (by rw [List.length_map]; omega) ?_
    have hw : wrap64 ((i : Int) + 1) = ((i + 1 : Nat) : Int) := by unfold wrap64; omega
    refine l1_ev a b c d most m0 m1 hk hkit hpr bl L hL hT i L[i] (List.getElem?_eq_getElem (by omega)) _ (fun _ _ _ => trivial) 16 0 M pl (by omega) hg (fun pl' hg' => ?_)
    rw [hw]
    have := l0_ev bl L hL hT hlen dd (i + 1) _ pl' (by omega) hg'
    rw [List.drop_eq_getElem_cons (by omega), List.flatMap_cons, List.foldl_append]
    simpa only [con, setsL, List.range_eq_range'] using this
theorem next_ev (bl : Bool) (L : List Ent) (hL : InK (v4 a b c d) most L) (hT : ∀ e ∈ L, 0 ≤ e.2.2 ∧ e.2.2 ≤ 44) (hlen : L.length ≤ 41000) :
    Ev (fun f => spec_l3Next.f f a b c d (L.map (toS bl)) most bl) ((nextP (v4 a b c d) most L).map (toS bl)) := by
  have hp := prod_is hk
  have hmany : xL3Many.f a b c d = some (prodOf (v4 a b c d)) := rfl
  have hb : (most + 1) * prodT (v4 a b c d) ≤ 41 * 1000 := Int.le_trans (Int.mul_le_mul_of_nonneg_right (by omega : most + 1 ≤ 41) (by omega)) (Int.mul_le_mul_of_nonneg_left hpr (by omega))
  have hb0 : 0 ≤ (most + 1) * prodT (v4 a b c d) := Int.mul_nonneg (by omega) (by omega)
  have e1 : wrap64 (wrap64 (most + 1) * prodT (v4 a b c d)) = (most + 1) * prodT (v4 a b c d) := by
    rw [wrap_big (x := most + 1) (by omega) (by omega), wrap_big hb0 (by omega)]
  unfold spec_l3Next.f
  rw [hmany, hp.1]
  simp only [Option.bind_some]
  rw [e1]
  refine ev_pos hb0 (ev_pos (by omega) ?_)
  have := l0_ev a b c d most m0 m1 hk hkit hpr bl L hL hT hlen L.length 0 [] (List.replicate ((most + 1) * prodT (v4 a b c d)).toNat 0) (by omega)
    ⟨List.Pairwise.nil, ⟨fun e he => absurd he List.not_mem_nil⟩, ⟨by rw [List.length_replicate]; omega, fun j q hq => by simp at hq, fun x hx _ => by
      unfold rd
      rw [List.getD_eq_getElem?_getD, List.getElem?_replicate]
      split <;> rfl⟩, fun e he => absurd he List.not_mem_nil⟩
  simpa [nextP] using this
end
end Go.Proofs.Ytlhodfjdmafapaa
end
section
namespace Go.Proofs.Ytlhodfjdmafapaa
open Go.RowKit Go.Proofs.YtlhodfjdmafapaaW.PrintWords Go.Proofs.YtlhodfjdmafapaaW.PrintLast Go.Proofs.Ytlhodfjdmafapaa.QAll
set_option linter.unusedVariables false
set_option linter.unusedSimpArgs false
theorem in_f (n lo hi : Int) : spec_l1In.f n lo hi = some (inB lo hi n) := by
  unfold spec_l1In.f inB
  by_cases h : lo ≤ n
  · rw [if_pos h]; simp [h]
  · rw [if_neg h]; simp [h]
theorem good_f (a b c d : Int) (s : Sd) (time : Int) : spec_l3Good.f a b c d s.1 s.2.1 s.2.2.1 s.2.2.2 time = some (searchB (v4 a b c d) s time) := by
  unfold spec_l3Good.f
  rw [show xL2Sand.f a b c d s.1 s.2.1 s.2.2.1 s.2.2.2 = some (isSandB (v4 a b c d) (fn4 s) && isKitB (v4 a b c d)) from rfl, show xL3Many.f a b c d = some (prodOf (v4 a b c d)) from rfl]
  simp only [Option.bind_some, in_f]
  unfold searchB
  rw [Bool.and_comm (isKitB _)]
  cases h1 : (isSandB (v4 a b c d) (fn4 s) && isKitB (v4 a b c d))
  · simp
  · by_cases h2 : prodOf (v4 a b c d) ≤ 1000
    · simp [h2]
    · simp [h2]
theorem search_more {a b c d : Int} {s : Sd} {time : Int} (h : searchB (v4 a b c d) s time = true) : isKitB (v4 a b c d) = true ∧ (∀ i, i < 4 → 0 ≤ v4 a b c d i ∧ v4 a b c d i ≤ 30) ∧ prodT (v4 a b c d) ≤ 1000 := by
  unfold searchB at h
  simp only [Bool.and_eq_true, decide_eq_true_eq] at h
  have hk := kit_bounds h.1.1
  exact ⟨h.1.1, hk, by have := (prod_is hk).1; omega⟩
section
variable (a b c d : Int) (s : Sd) (time : Int) (h : searchB (v4 a b c d) s time = true)
include h
end
end Go.Proofs.Ytlhodfjdmafapaa
end
section
namespace Go.Proofs.Ytlhodfjdmafapaa
open Go.RowKit Go.Proofs.YtlhodfjdmafapaaW.PrintWords Go.Proofs.YtlhodfjdmafapaaW.PrintLast Go.Proofs.Ytlhodfjdmafapaa.QAll
set_option linter.unusedVariables false
set_option linter.unusedSimpArgs false
section
variable (a b c d : Int) (s : Sd) (time : Int) (h : searchB (v4 a b c d) s time = true)
include h
end
end Go.Proofs.Ytlhodfjdmafapaa
end
