/- Plain: the least times of all sands, the reference's way. No statement of the seat is proved here. -/
import Derived.Test.YtlhodfjdmafapaaPMet
import Derived.Test.YtlhodfjdmafapaaLeafB
namespace Go.Proofs.Ytlhodfjdmafapaa
open Go.RowKit Go.Proofs.YtlhodfjdmafapaaW.PrintWords
set_option linter.unusedVariables false
set_option linter.unusedSimpArgs false
def sandX (k : Nat → Int) (id : Int) : Sd := tup4 (sandAt k id)
def idn (k : Nat → Int) (s : Sd) : Int := idOf k (fn4 s)
section
variable {k : Nat → Int}
theorem idn_sid {s : Sd} (h : Sand k (fn4 s)) : idn k s = sid k (s, 0) := by
  have h0 : 0 ≤ fn4 s 0 := h.lo 0 (by omega)
  have h1 : fn4 s 0 ≤ 30 := Int.le_trans (h.hi 0 (by omega)) (h.top 0 (by omega))
  have e1 : wrap64 (fn4 s 0) = fn4 s 0 := wrap_big h0 (by omega)
  have e2 : wrap64 (wrap64 (0 * wrap64 (k 0 + 1)) + fn4 s 0) = fn4 s 0 := by
    rw [Int.zero_mul, show wrap64 0 = 0 from by unfold wrap64; omega, Int.zero_add]
    exact e1
  unfold idn sid idOf idFrom
  rw [e1]
  show _ = wrap64 (wrap64 (wrap64 (wrap64 (wrap64 (wrap64 (wrap64 (wrap64 (0 * wrap64 (k 0 + 1)) + fn4 s 0) * wrap64 (k 1 + 1)) + fn4 s 1) * wrap64 (k 2 + 1)) + fn4 s 2) * wrap64 (k 3 + 1)) + fn4 s 3)
  rw [e2]
theorem val0 {s : Sd} (h : Sand k (fn4 s)) : Val k 0 (s, 0) := ⟨h, Int.le_refl 0, Int.le_refl 0⟩
theorem idn_is {s : Sd} (h : Sand k (fn4 s)) : idn k s = sidT k (s, 0) ∧ 0 ≤ idn k s ∧ idn k s < prodT k := by
  have := sid_is (by omega) (val0 h)
  rw [idn_sid h, this.1]
  refine ⟨rfl, this.2.1, ?_⟩
  have h2 := this.2.2
  rw [show ((s, (0 : Int)) : Spot).2 + 1 = 1 from rfl, Int.one_mul] at h2
  exact h2
theorem idn_inj {s r : Sd} (h : Sand k (fn4 s)) (h' : Sand k (fn4 r)) (e : idn k s = idn k r) : s = r := by
  rw [idn_sid h, idn_sid h'] at e
  exact (Prod.mk.inj (sid_inj (by omega) (val0 h) (val0 h') e)).1
theorem sandX_sand (hk : ∀ i, i < 4 → 0 ≤ k i ∧ k i ≤ 30) {id : Int} (h0 : 0 ≤ id) : Sand k (fn4 (sandX k id)) := by
  have b := fun i hi => (hk i hi).1
  refine ⟨fun i hi => ?_, fun i hi => ?_, fun i hi => (hk i hi).2⟩
  · obtain rfl | rfl | rfl | rfl : i = 0 ∨ i = 1 ∨ i = 2 ∨ i = 3 := by omega
    · exact Int.emod_nonneg _ (by have := b 0 (by omega); omega)
    · exact Int.emod_nonneg _ (by have := b 1 (by omega); omega)
    · exact Int.emod_nonneg _ (by have := b 2 (by omega); omega)
    · exact Int.emod_nonneg _ (by have := b 3 (by omega); omega)
  · obtain rfl | rfl | rfl | rfl : i = 0 ∨ i = 1 ∨ i = 2 ∨ i = 3 := by omega
    · have := Int.emod_lt_of_pos (id / (k 3 + 1) / (k 2 + 1) / (k 1 + 1)) (show 0 < k 0 + 1 by have := b 0 (by omega); omega)
      exact Int.lt_add_one_iff.1 this
    · have := Int.emod_lt_of_pos (id / (k 3 + 1) / (k 2 + 1)) (show 0 < k 1 + 1 by have := b 1 (by omega); omega)
      exact Int.lt_add_one_iff.1 this
    · have := Int.emod_lt_of_pos (id / (k 3 + 1)) (show 0 < k 2 + 1 by have := b 2 (by omega); omega)
      exact Int.lt_add_one_iff.1 this
    · have := Int.emod_lt_of_pos id (show 0 < k 3 + 1 by have := b 3 (by omega); omega)
      exact Int.lt_add_one_iff.1 this
theorem div_lt {a p c : Int} (h : a < p * c) (hc : 0 < c) : a / c < p := by
  exact Int.ediv_lt_of_lt_mul hc h
theorem idn_sandX (hk : ∀ i, i < 4 → 0 ≤ k i ∧ k i ≤ 30) {id : Int} (h0 : 0 ≤ id) (h1 : id < prodT k) : idn k (sandX k id) = id := by
  have c0 : 0 < k 0 + 1 := by have := (hk 0 (by omega)).1; omega
  have c1 : 0 < k 1 + 1 := by have := (hk 1 (by omega)).1; omega
  have c2 : 0 < k 2 + 1 := by have := (hk 2 (by omega)).1; omega
  have c3 : 0 < k 3 + 1 := by have := (hk 3 (by omega)).1; omega
  rw [(idn_is (sandX_sand hk h0)).1]
  have d3 : id / (k 3 + 1) < (k 0 + 1) * (k 1 + 1) * (k 2 + 1) := div_lt h1 c3
  have d2 : id / (k 3 + 1) / (k 2 + 1) < (k 0 + 1) * (k 1 + 1) := div_lt d3 c2
  have d1 : id / (k 3 + 1) / (k 2 + 1) / (k 1 + 1) < k 0 + 1 := div_lt d2 c1
  have n3 : 0 ≤ id / (k 3 + 1) := Int.ediv_nonneg h0 (by omega)
  have n2 : 0 ≤ id / (k 3 + 1) / (k 2 + 1) := Int.ediv_nonneg n3 (by omega)
  have n1 : 0 ≤ id / (k 3 + 1) / (k 2 + 1) / (k 1 + 1) := Int.ediv_nonneg n2 (by omega)
  have e0 : id / (k 3 + 1) / (k 2 + 1) / (k 1 + 1) % (k 0 + 1) = id / (k 3 + 1) / (k 2 + 1) / (k 1 + 1) := Int.emod_eq_of_lt n1 d1
  show (((0 * (k 0 + 1) + id / (k 3 + 1) / (k 2 + 1) / (k 1 + 1) % (k 0 + 1)) * (k 1 + 1) + id / (k 3 + 1) / (k 2 + 1) % (k 1 + 1)) * (k 2 + 1) + id / (k 3 + 1) % (k 2 + 1)) * (k 3 + 1) + id % (k 3 + 1) = id
  rw [e0, Int.zero_mul, Int.zero_add, Int.mul_comm _ (k 1 + 1), Int.mul_ediv_add_emod, Int.mul_comm _ (k 2 + 1), Int.mul_ediv_add_emod, Int.mul_comm _ (k 3 + 1), Int.mul_ediv_add_emod]
theorem sandX_idn (hk : ∀ i, i < 4 → 0 ≤ k i ∧ k i ≤ 30) {s : Sd} (h : Sand k (fn4 s)) : sandX k (idn k s) = s := by
  have b := (idn_is h).2
  exact idn_inj (sandX_sand hk b.1) h (idn_sandX hk b.1 b.2)
theorem sandX_zero : sandX k 0 = calm0 := by
  show (0 / (k 3 + 1) / (k 2 + 1) / (k 1 + 1) % (k 0 + 1), 0 / (k 3 + 1) / (k 2 + 1) % (k 1 + 1), 0 / (k 3 + 1) % (k 2 + 1), 0 % (k 3 + 1)) = ((0, 0, 0, 0) : Sd)
  simp
end
/-- all steps of a sand: by numbers, with their minutes -/
def nextL (k : Nat → Int) (id : Int) : List (Int × Int) := ((setsL k).filter fun set => decide (0 < goD k (sandX k id) set)).map fun set => (idn k (goS k (sandX k id) set), goD k (sandX k id) set)
theorem nextL_mem {k : Nat → Int} (hk : ∀ i, i < 4 → 0 ≤ k i ∧ k i ≤ 30) {id : Int} (h0 : 0 ≤ id) {p : Int × Int} (h : p ∈ nextL k id) : ∃ set ∈ setsL k, 0 < goD k (sandX k id) set ∧ goD k (sandX k id) set ≤ 30 ∧ p.2 = goD k (sandX k id) set ∧ 0 ≤ p.1 ∧ p.1 < prodT k ∧ sandX k p.1 = goS k (sandX k id) set := by
  obtain ⟨set, hs, rfl⟩ := List.mem_map.1 h
  obtain ⟨h1, h2⟩ := List.mem_filter.1 hs
  have hS := sandX_sand hk h0
  have hT := sand_tup (hS.step set)
  have hb := idn_is hT
  exact ⟨set, h1, of_decide_eq_true h2, (hS.stepD set).2, rfl, hb.2.1, hb.2.2, sandX_idn hk hT⟩
theorem nextL_len (k : Nat → Int) (id : Int) : (nextL k id).length ≤ 16 := by
  unfold nextL
  rw [List.length_map]
  exact Nat.le_trans (List.length_filter_le _ _) (setsL_len k)
def cntO (out : List Int) : Nat := (out.filter fun v => decide (0 ≤ v)).length
theorem cntO_le (out : List Int) : cntO out ≤ out.length := List.length_filter_le _ _
theorem cntO_set {v : Int} (hv : 0 ≤ v) : ∀ (out : List Int) (i : Nat), i < out.length → cntO (out.set i v) = cntO out + (if 0 ≤ out.getD i 0 then 0 else 1)
  | [], i, h => absurd h (Nat.not_lt_zero _)
  | a :: r, 0, _ => by
    simp only [List.set_cons_zero, cntO, List.filter_cons, List.getD_cons_zero]
    by_cases c : 0 ≤ a
    · simp [hv, c]
    · simp [hv, c]
  | a :: r, i + 1, h => by
    have ih := cntO_set hv r i (by simpa using h)
    simp only [cntO] at ih
    simp only [List.set_cons_succ, cntO, List.filter_cons, List.getD_cons_succ]
    by_cases c : 0 ≤ a
    · simp only [c, decide_true, if_true, List.length_cons, ih]; omega
    · simp only [c, decide_false, Bool.false_eq_true, if_false, ih]
theorem rd_same {out : List Int} {i v : Int} (h0 : 0 ≤ i) (h1 : i < (out.length : Int)) : rd (out.set i.toNat v) i = v := by
  unfold rd
  rw [List.getD_eq_getElem?_getD, List.getElem?_set_self (by omega)]
  rfl
theorem rd_ne {out : List Int} {i j v : Int} (h0 : 0 ≤ i) (h1 : 0 ≤ j) (h : i ≠ j) : rd (out.set i.toNat v) j = rd out j := by
  unfold rd
  rw [List.getD_eq_getElem?_getD, List.getD_eq_getElem?_getD, List.getElem?_set_ne (by omega)]
def updI (Q : Int → List Int) (t : Int) (l : List Int) : Int → List Int := fun u => if u = t then l else Q u
theorem updI_same (Q : Int → List Int) (t : Int) (l : List Int) : updI Q t l t = l := by unfold updI; rw [if_pos rfl]
theorem updI_ne (Q : Int → List Int) {t u : Int} (l : List Int) (h : u ≠ t) : updI Q t l u = Q u := by unfold updI; rw [if_neg h]
structure EInv (k : Nat → Int) (out : List Int) (Q : Int → List Int) (len : Nat) (t : Int) (n : Nat) (x : Int) (rest : List (Int × Int)) : Prop where
  olen : (out.length : Int) = prodT k
  reach : ∀ id, 0 ≤ id → id < prodT k → 0 ≤ rd out id → Reach k (sandX k id) (rd out id)
  neg : ∀ id, 0 ≤ id → id < prodT k → rd out id < 0 → rd out id = -1
  zero : rd out 0 = 0
  olt : ∀ id, 0 ≤ id → id < prodT k → rd out id < len
  queue : ∀ u id, id ∈ Q u → 0 ≤ id ∧ id < prodT k ∧ 0 ≤ rd out id ∧ rd out id ≤ u ∧ u < len
  nodup : ∀ u, (Q u).Nodup
  done : ∀ id, 0 ≤ id → id < prodT k → 0 ≤ rd out id → (t < rd out id ∧ id ∈ Q (rd out id)) ∨ (rd out id = t ∧ id ∈ (Q t).drop n) ∨ ∀ p ∈ nextL k id, (id = x ∧ p ∈ rest) ∨ (0 ≤ rd out p.1 ∧ rd out p.1 ≤ rd out id + p.2)
  lenB : len ≤ 30 * cntO out + 1
  t0 : 0 ≤ t
  cur : rest = [] ∨ (0 ≤ x ∧ x < prodT k ∧ rd out x = t ∧ t < len ∧ ∀ p ∈ rest, p ∈ nextL k x)
def startI : Int → List Int := updI (fun _ => []) 0 [0]
theorem EInv.start {k : Nat → Int} (hk : ∀ i, i < 4 → 0 ≤ k i ∧ k i ≤ 30) {N : Nat} (hN : (N : Int) = prodT k) (hp : 1 ≤ prodT k) : EInv k ((List.replicate N (-1)).set 0 0) startI 1 0 0 0 [] := by
  have hl : ((List.replicate N (-1 : Int)).length : Int) = prodT k := by rw [List.length_replicate]; exact hN
  have h0 : rd ((List.replicate N (-1 : Int)).set 0 0) 0 = 0 := rd_same (i := 0) (Int.le_refl 0) (by omega)
  have h1 : ∀ id, 0 ≤ id → id < prodT k → id ≠ 0 → rd ((List.replicate N (-1 : Int)).set 0 0) id = -1 := fun id a b c => by
    have := rd_ne (out := List.replicate N (-1 : Int)) (v := 0) (Int.le_refl 0) a (Ne.symm c)
    rw [show (List.replicate N (-1 : Int)).set 0 0 = (List.replicate N (-1 : Int)).set (0 : Int).toNat 0 from rfl, this]
    unfold rd
    rw [List.getD_eq_getElem?_getD, List.getElem?_replicate, if_pos (by omega)]
    rfl
  refine ⟨by rw [List.length_set]; exact hl, fun id a b c => ?_, fun id a b c => ?_, h0, fun id a b => ?_, fun u id h => ?_, fun u => ?_, fun id a b c => ?_, ?_, Int.le_refl 0, .inl rfl⟩
  · by_cases e : id = 0
    · subst e; rw [h0, sandX_zero]; exact Reach.calm
    · rw [h1 id a b e] at c; omega
  · by_cases e : id = 0
    · subst e; omega
    · exact h1 id a b e
  · by_cases e : id = 0
    · subst e; omega
    · rw [h1 id a b e]; omega
  · by_cases e : u = 0
    · subst e
      rw [startI, updI_same] at h
      rw [List.mem_singleton.1 h, h0]
      omega
    · rw [startI, updI_ne _ _ e] at h; exact absurd h List.not_mem_nil
  · by_cases e : u = 0
    · subst e; rw [startI, updI_same]; simp
    · rw [startI, updI_ne _ _ e]; exact List.nodup_nil
  · by_cases e : id = 0
    · subst e; exact .inr (.inl ⟨h0, by rw [startI, updI_same]; exact List.mem_cons_self⟩)
    · rw [h1 id a b e] at c; omega
  · omega
section
variable {k : Nat → Int} {out : List Int} {Q : Int → List Int} {len : Nat} {t : Int} {n : Nat} {x : Int} {rest : List (Int × Int)}
theorem EInv.any (h : EInv k out Q len t n x []) (y : Int) : EInv k out Q len t n y [] :=
  ⟨h.olen, h.reach, h.neg, h.zero, h.olt, h.queue, h.nodup, fun id a b c => by
    rcases h.done id a b c with d | d | d
    · exact .inl d
    · exact .inr (.inl d)
    · exact .inr (.inr fun p hp => (d p hp).imp (fun c => absurd c.2 List.not_mem_nil) (fun c => c)), h.lenB, h.t0, .inl rfl⟩
theorem mem_drop_next {l : List Int} {n : Nat} {a b : Int} (h0 : l[n]? = some b) (h : a ∈ l.drop n) : a = b ∨ a ∈ l.drop (n + 1) := by
  have hl : n < l.length := by
    rcases Nat.lt_or_ge n l.length with q | q
    · exact q
    · rw [List.getElem?_eq_none q] at h0; cases h0
  rw [List.drop_eq_getElem_cons hl] at h
  have e : l[n] = b := by rw [List.getElem?_eq_getElem hl] at h0; exact Option.some.inj h0
  rw [e] at h
  exact List.mem_cons.1 h
theorem EInv.skip (h : EInv k out Q len t n x []) {id : Int} (hs : (Q t)[n]? = some id) (hm : rd out id ≠ t) : EInv k out Q len t (n + 1) x [] :=
  ⟨h.olen, h.reach, h.neg, h.zero, h.olt, h.queue, h.nodup, fun i a b c => by
    rcases h.done i a b c with d | ⟨d1, d2⟩ | d
    · exact .inl d
    · rcases mem_drop_next hs d2 with rfl | d2
      · exact absurd d1 hm
      · exact .inr (.inl ⟨d1, d2⟩)
    · exact .inr (.inr d), h.lenB, h.t0, h.cur⟩
theorem EInv.take (h : EInv k out Q len t n x []) {id : Int} (hs : (Q t)[n]? = some id) (hm : rd out id = t) : EInv k out Q len t (n + 1) id (nextL k id) := by
  obtain ⟨q0, q1, q2, q3, q4⟩ := h.queue _ _ (List.mem_of_getElem? hs)
  refine ⟨h.olen, h.reach, h.neg, h.zero, h.olt, h.queue, h.nodup, fun i a b c => ?_, h.lenB, h.t0, .inr ⟨q0, q1, hm, q4, fun _ hp => hp⟩⟩
  rcases h.done i a b c with d | ⟨d1, d2⟩ | d
  · exact .inl d
  · rcases mem_drop_next hs d2 with rfl | d2
    · exact .inr (.inr fun p hp => .inl ⟨rfl, hp⟩)
    · exact .inr (.inl ⟨d1, d2⟩)
  · exact .inr (.inr fun p hp => (d p hp).imp (fun c => absurd c.2 List.not_mem_nil) (fun c => c))
theorem EInv.drop {p : Int × Int} (h : EInv k out Q len t n x (p :: rest)) (hc : 0 ≤ rd out p.1 ∧ rd out p.1 ≤ t + p.2) : EInv k out Q len t n x rest := by
  obtain ⟨x0, x1, x2, x3, x4⟩ := h.cur.resolve_left (by simp)
  refine ⟨h.olen, h.reach, h.neg, h.zero, h.olt, h.queue, h.nodup, fun i a b c => ?_, h.lenB, h.t0, .inr ⟨x0, x1, x2, x3, fun q hq => x4 q (List.mem_cons_of_mem _ hq)⟩⟩
  rcases h.done i a b c with d | d | d
  · exact .inl d
  · exact .inr (.inl d)
  · refine .inr (.inr fun q hq => ?_)
    rcases d q hq with ⟨d1, d2⟩ | d
    · rcases List.mem_cons.1 d2 with rfl | d2
      · refine .inr ⟨hc.1, ?_⟩
        rw [d1, x2]; exact hc.2
      · exact .inl ⟨d1, d2⟩
    · exact .inr d
theorem EInv.push (hk : ∀ i, i < 4 → 0 ≤ k i ∧ k i ≤ 30) {p : Int × Int} (h : EInv k out Q len t n x (p :: rest)) (hc : ¬ (0 ≤ rd out p.1 ∧ rd out p.1 ≤ t + p.2)) :
    EInv k (out.set p.1.toNat (t + p.2)) (updI Q (t + p.2) (Q (t + p.2) ++ [p.1])) (max len (t + p.2 + 1).toNat) t n x rest := by
  obtain ⟨x0, x1, x2, x3, x4⟩ := h.cur.resolve_left (by simp)
  obtain ⟨set, s1, s2, s3, s4, s5, s6, s7⟩ := nextL_mem hk x0 (x4 p List.mem_cons_self)
  have ht := h.t0
  have hol := h.olen
  have e0 : rd (out.set p.1.toNat (t + p.2)) p.1 = t + p.2 := rd_same s5 (by omega)
  have e1 : ∀ id, 0 ≤ id → id ≠ p.1 → rd (out.set p.1.toNat (t + p.2)) id = rd out id := fun id a b => rd_ne s5 a (Ne.symm b)
  have hx : x ≠ p.1 := fun e => hc (by rw [← e, x2]; omega)
  have hself : updI Q (t + p.2) (Q (t + p.2) ++ [p.1]) t = Q t := updI_ne _ _ (by omega)
  have hmono : ∀ u id, id ∈ Q u → id ∈ updI Q (t + p.2) (Q (t + p.2) ++ [p.1]) u := fun u id hq => by
    by_cases q : u = t + p.2
    · rw [q, updI_same]; rw [q] at hq; exact List.mem_append_left _ hq
    · rw [updI_ne _ _ q]; exact hq
  refine ⟨by rw [List.length_set]; exact hol, fun id a b c => ?_, fun id a b c => ?_, ?_, fun id a b => ?_, fun u id hu => ?_, fun u => ?_, fun id a b c => ?_, ?_, ht, .inr ⟨x0, x1, by rw [e1 x x0 hx]; exact x2, by omega, fun q hq => x4 q (List.mem_cons_of_mem _ hq)⟩⟩
  · by_cases q : id = p.1
    · rw [q, e0, s7, s4]
      have := h.reach x x0 x1 (by omega)
      rw [x2] at this
      exact Reach.step _ _ _ this s1 s2
    · rw [e1 id a q] at c ⊢; exact h.reach id a b c
  · by_cases q : id = p.1
    · rw [q, e0] at c; omega
    · rw [e1 id a q] at c ⊢; exact h.neg id a b c
  · have : (0 : Int) ≠ p.1 := fun e => hc (by rw [← e, h.zero]; omega)
    rw [e1 0 (Int.le_refl 0) this]; exact h.zero
  · by_cases q : id = p.1
    · rw [q, e0]; omega
    · rw [e1 id a q]; have := h.olt id a b; omega
  · have old : id ∈ Q u → 0 ≤ id ∧ id < prodT k ∧ 0 ≤ rd (out.set p.1.toNat (t + p.2)) id ∧ rd (out.set p.1.toNat (t + p.2)) id ≤ u ∧ u < ((max len (t + p.2 + 1).toNat : Nat) : Int) := fun hu => by
      obtain ⟨a1, a2, a3, a4, a5⟩ := h.queue u id hu
      by_cases q : id = p.1
      · rw [q, e0]
        rw [q] at a3 a4 a1 a2
        refine ⟨a1, a2, by omega, ?_, by omega⟩
        have : ¬ rd out p.1 ≤ t + p.2 := fun e => hc ⟨a3, e⟩
        omega
      · rw [e1 id a1 q]; exact ⟨a1, a2, a3, a4, by omega⟩
    by_cases q : u = t + p.2
    · rw [q, updI_same] at hu
      rcases List.mem_append.1 hu with hu | hu
      · exact old (by rw [q]; exact hu)
      · rw [List.mem_singleton.1 hu, e0, q]
        exact ⟨s5, s6, by omega, Int.le_refl _, by omega⟩
    · rw [updI_ne _ _ q] at hu
      exact old hu
  · by_cases q : u = t + p.2
    · rw [q, updI_same]
      refine List.nodup_append.2 ⟨h.nodup _, by simp, fun a ha b hb e => ?_⟩
      rw [List.mem_singleton.1 hb] at e
      rw [e] at ha
      obtain ⟨a1, a2, a3, a4, a5⟩ := h.queue _ _ ha
      exact hc ⟨a3, a4⟩
    · rw [updI_ne _ _ q]; exact h.nodup u
  · by_cases q : id = p.1
    · rw [q, e0]
      exact .inl ⟨by omega, by rw [updI_same]; exact List.mem_append_right _ List.mem_cons_self⟩
    · rw [e1 id a q] at c ⊢
      rcases h.done id a b c with ⟨d1, d2⟩ | ⟨d1, d2⟩ | d
      · exact .inl ⟨d1, hmono _ _ d2⟩
      · exact .inr (.inl ⟨d1, by rw [hself]; exact d2⟩)
      · refine .inr (.inr fun r hr => ?_)
        obtain ⟨_, _, _, _, _, r5, r6, _⟩ := nextL_mem hk a hr
        rcases d r hr with ⟨d1, d2⟩ | ⟨d1, d2⟩
        · rcases List.mem_cons.1 d2 with rfl | d2
          · exact .inr (by rw [e0, d1, x2]; omega)
          · exact .inl ⟨d1, d2⟩
        · by_cases q2 : r.1 = p.1
          · refine .inr ?_
            rw [q2, e0]
            rw [q2] at d1 d2
            have : ¬ rd out p.1 ≤ t + p.2 := fun e => hc ⟨d1, e⟩
            omega
          · exact .inr (by rw [e1 r.1 r5 q2]; exact ⟨d1, d2⟩)
  · have hlb := h.lenB
    rw [cntO_set (by omega) out p.1.toNat (by omega)]
    by_cases q : 0 ≤ rd out p.1
    · have h1 := h.olt p.1 s5 s6
      have : ¬ rd out p.1 ≤ t + p.2 := fun e => hc ⟨q, e⟩
      omega
    · rw [if_neg (by exact q)]
      omega
theorem EInv.tick (h : EInv k out Q len t n x []) (hn : (Q t).length ≤ n) : EInv k out Q len (t + 1) 0 0 [] := by
  have h := h.any 0
  refine ⟨h.olen, h.reach, h.neg, h.zero, h.olt, h.queue, h.nodup, fun id a b c => ?_, h.lenB, by have := h.t0; omega, .inl rfl⟩
  rcases h.done id a b c with ⟨d1, d2⟩ | ⟨d1, d2⟩ | d
  · by_cases q : rd out id = t + 1
    · exact .inr (.inl ⟨q, by rw [List.drop_zero, ← q]; exact d2⟩)
    · exact .inl ⟨by omega, d2⟩
  · rw [List.drop_eq_nil_of_le hn] at d2
    exact absurd d2 List.not_mem_nil
  · exact .inr (.inr d)
def ofOut (k : Nat → Int) (out : List Int) : List (Sd × Int) := ((List.range (prodT k).toNat).filter fun i => decide (0 ≤ rd out (i : Nat))).map fun (i : Nat) => (sandX k i, rd out i)
theorem ofOut_mem (hk : ∀ i, i < 4 → 0 ≤ k i ∧ k i ≤ 30) {p : Sd × Int} : p ∈ ofOut k out ↔ ∃ id : Int, 0 ≤ id ∧ id < prodT k ∧ 0 ≤ rd out id ∧ p = (sandX k id, rd out id) := by
  unfold ofOut
  constructor
  · intro h
    obtain ⟨i, hi, rfl⟩ := List.mem_map.1 h
    obtain ⟨h1, h2⟩ := List.mem_filter.1 hi
    have := List.mem_range.1 h1
    exact ⟨(i : Int), by omega, by omega, of_decide_eq_true h2, rfl⟩
  · rintro ⟨id, a, b, c, rfl⟩
    refine List.mem_map.2 ⟨id.toNat, List.mem_filter.2 ⟨List.mem_range.2 (by omega), ?_⟩, ?_⟩
    · rw [show ((id.toNat : Nat) : Int) = id by omega]; exact decide_eq_true c
    · rw [show ((id.toNat : Nat) : Int) = id by omega]
theorem sandX_inj (hk : ∀ i, i < 4 → 0 ≤ k i ∧ k i ≤ 30) {a b : Int} (a0 : 0 ≤ a) (a1 : a < prodT k) (b0 : 0 ≤ b) (b1 : b < prodT k) (e : sandX k a = sandX k b) : a = b := by
  rw [← idn_sandX hk a0 a1, ← idn_sandX hk b0 b1, e]
theorem ofOut_nd (hk : ∀ i, i < 4 → 0 ≤ k i ∧ k i ≤ 30) : Nd (ofOut k out) := by
  unfold ofOut Nd
  rw [List.pairwise_map]
  refine List.Pairwise.imp_of_mem ?_ (List.Pairwise.filter _ List.nodup_range)
  intro a b ha hb hne e
  have h1 := List.mem_range.1 (List.mem_filter.1 ha).1
  have h2 := List.mem_range.1 (List.mem_filter.1 hb).1
  have := sandX_inj hk (a := (a : Int)) (b := (b : Int)) (by omega) (by omega) (by omega) (by omega) e
  exact hne (by omega)
theorem EInv.met (hk : ∀ i, i < 4 → 0 ≤ k i ∧ k i ≤ 30) (hp : 1 ≤ prodT k) (h : EInv k out Q len t 0 x []) (hl : (len : Int) ≤ t) : Met k (ofOut k out) := by
  refine ⟨ofOut_nd hk, (ofOut_mem hk).2 ⟨0, Int.le_refl 0, by omega, by rw [h.zero]; exact Int.le_refl 0, by rw [sandX_zero, h.zero]⟩, fun p hq => ?_, fun p hq set hset hd => ?_⟩
  · obtain ⟨id, a, b, c, rfl⟩ := (ofOut_mem hk).1 hq
    exact h.reach id a b c
  · obtain ⟨id, a, b, c, rfl⟩ := (ofOut_mem hk).1 hq
    have hm : (idn k (goS k (sandX k id) set), goD k (sandX k id) set) ∈ nextL k id := List.mem_map.2 ⟨set, List.mem_filter.2 ⟨hset, decide_eq_true hd⟩, rfl⟩
    rcases h.done id a b c with ⟨d1, d2⟩ | ⟨d1, d2⟩ | d
    · have := h.olt id a b; omega
    · have := h.olt id a b; omega
    · rcases d _ hm with ⟨_, d⟩ | ⟨d1, d2⟩
      · exact absurd d List.not_mem_nil
      · have hT := sand_tup ((sandX_sand hk a).step set)
        have hb := idn_is hT
        exact ⟨_, d2, (ofOut_mem hk).2 ⟨_, hb.2.1, hb.2.2, d1, by
          show (goS k (sandX k id) set, rd out (idn k (goS k (sandX k id) set))) = (sandX k (idn k (goS k (sandX k id) set)), rd out (idn k (goS k (sandX k id) set)))
          rw [sandX_idn hk (show Sand k (fn4 (goS k (sandX k id) set)) from hT)]⟩⟩
end
/-- the least times of all sands, in the order of their numbers; -1 where a sand is not met -/
noncomputable def earlL (k : Nat → Int) : List Int := (List.range (prodT k).toNat).map fun (i : Nat) => (getA (metL k) (sandX k i)).getD (-1)
theorem EInv.early {k : Nat → Int} (hk : ∀ i, i < 4 → 0 ≤ k i ∧ k i ≤ 30) (hp : 1 ≤ prodT k) {out : List Int} {Q : Int → List Int} {len : Nat} {t x : Int} (h : EInv k out Q len t 0 x []) (hl : (len : Int) ≤ t) : out = earlL k ∧ Met k (metL k) := by
  have hM := h.met hk hp hl
  refine ⟨?_, metL_met hM⟩
  have hol := h.olen
  apply List.ext_getElem?
  intro i
  unfold earlL
  rw [List.getElem?_map]
  by_cases c : i < (prodT k).toNat
  · rw [List.getElem?_range c, List.getElem?_eq_getElem (by omega)]
    simp only [Option.map_some, Option.some.injEq]
    have e : out[i]'(by omega) = rd out (i : Int) := by
      unfold rd
      rw [List.getD_eq_getElem?_getD, Int.toNat_natCast, List.getElem?_eq_getElem (by omega)]
      rfl
    rw [e, ← getA_perm (metL_perm hM) hM.nd]
    by_cases q : 0 ≤ rd out (i : Int)
    · rw [getA_mem hM.nd ((ofOut_mem hk).2 ⟨(i : Int), by omega, by omega, q, rfl⟩)]
      rfl
    · rw [h.neg (i : Int) (by omega) (by omega) (by omega)]
      cases g : getA (ofOut k out) (sandX k i) with
      | none => rfl
      | some z =>
        obtain ⟨id, a, b, d, e2⟩ := (ofOut_mem hk).1 (getA_some g)
        have e3 := sandX_inj hk (by omega) (by omega) a b (Prod.mk.inj e2).1
        rw [← e3] at d
        exact absurd d q
  · rw [List.getElem?_eq_none (by omega), List.getElem?_eq_none (by rw [List.length_range]; omega)]
    rfl
theorem metL_nd (k : Nat → Int) : Nd (metL k) ∧ ∀ p ∈ metL k, Reach k p.1 p.2 := by
  by_cases h : ∃ M, Met k M
  · obtain ⟨M, h⟩ := h
    have := metL_met h
    exact ⟨this.nd, this.reach⟩
  · unfold metL
    rw [dif_neg h]
    exact ⟨List.Pairwise.nil, fun p hp => absurd hp List.not_mem_nil⟩
theorem rd_earl {k : Nat → Int} {id : Int} (h0 : 0 ≤ id) (h1 : id < prodT k) : rd (earlL k) id = (getA (metL k) (sandX k id)).getD (-1) := by
  unfold rd earlL
  rw [List.getD_eq_getElem?_getD, List.getElem?_map, List.getElem?_range (by omega)]
  simp only [Option.map_some, Option.getD_some]
  rw [Int.toNat_of_nonneg h0]
theorem earl_len (k : Nat → Int) (hp : 0 ≤ prodT k) : ((earlL k).length : Int) = prodT k := by
  unfold earlL
  rw [List.length_map, List.length_range]
  omega
theorem earl_perm {k : Nat → Int} (hk : ∀ i, i < 4 → 0 ≤ k i ∧ k i ≤ 30) : (ofOut k (earlL k)).Perm (metL k) := by
  obtain ⟨hn, hr⟩ := metL_nd k
  refine perm_of_mem (nd_nodup (ofOut_nd hk)) (nd_nodup hn) (fun p => ⟨fun hp => ?_, fun hp => ?_⟩)
  · obtain ⟨id, a, b, c, rfl⟩ := (ofOut_mem hk).1 hp
    rw [rd_earl a b] at c ⊢
    cases g : getA (metL k) (sandX k id) with
    | none => rw [g] at c; simp at c
    | some t => exact getA_some g
  · obtain ⟨x, t⟩ := p
    obtain ⟨hs, ht⟩ := (hr _ hp).sand hk
    have hb := (idn_is hs).2
    have e : rd (earlL k) (idn k x) = t := by rw [rd_earl hb.1 hb.2, sandX_idn hk hs, getA_mem hn hp]; rfl
    exact (ofOut_mem hk).2 ⟨idn k x, hb.1, hb.2, by rw [e]; exact ht, by rw [sandX_idn hk hs, e]⟩
theorem earl_cnt {k : Nat → Int} (hk : ∀ i, i < 4 → 0 ≤ k i ∧ k i ≤ 30) : cntO (earlL k) = (metL k).length := by
  rw [← (earl_perm hk).length_eq]
  unfold ofOut cntO
  rw [List.length_map]
  have e : earlL k = (List.range (prodT k).toNat).map fun (i : Nat) => rd (earlL k) (i : Int) := by
    apply List.ext_getElem?
    intro i
    rw [List.getElem?_map]
    by_cases c : i < (prodT k).toNat
    · rw [List.getElem?_range c]
      have hl : i < (earlL k).length := by unfold earlL; rw [List.length_map, List.length_range]; exact c
      rw [List.getElem?_eq_getElem hl]
      simp only [Option.map_some, Option.some.injEq]
      unfold rd
      rw [List.getD_eq_getElem?_getD, Int.toNat_natCast, List.getElem?_eq_getElem hl]
      rfl
    · rw [List.getElem?_eq_none (by unfold earlL; rw [List.length_map, List.length_range]; omega), List.getElem?_eq_none (by rw [List.length_range]; omega)]
      rfl
  rw [e, List.filter_map, List.length_map]
  rw [← e]
  rfl
end Go.Proofs.Ytlhodfjdmafapaa
