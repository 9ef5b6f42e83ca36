/- Plain: spans that are measured, the reference's way. No statement of the seat is proved here. -/
import Derived.Test.YtlhodfjdmafapaaPEarl
import Derived.Test.YtlhodfjdmafapaaPSpan
import Derived.Test.YtlhodfjdmafapaaPEv
import Derived.Test.YtlhodfjdmafapaaWLast
import Derived.Test.YtlhodfjdmafapaaQMs2
import Derived.Test.YtlhodfjdmafapaaMSpan
import Derived.Deep.RegionLaw
import Derived.Test.YtlhodfjdmafapaaQMs1
section
namespace Go.Proofs.Ytlhodfjdmafapaa
open Go.RowKit Go.Proofs.YtlhodfjdmafapaaW.PrintWords Go.Proofs.YtlhodfjdmafapaaW.PrintLast Go.Proofs.Ytlhodfjdmafapaa.QMs
set_option linter.unusedVariables false
set_option linter.unusedSimpArgs false
theorem sandB_ofM {k s : Nat → Int} (h : Sand k s) : isSandB k s = true := by
  simp only [isSandB, Bool.and_eq_true, inB_iff]
  exact ⟨⟨⟨⟨h.lo 0 (by omega), h.hi 0 (by omega)⟩, ⟨h.lo 1 (by omega), h.hi 1 (by omega)⟩⟩, ⟨h.lo 2 (by omega), h.hi 2 (by omega)⟩⟩, ⟨h.lo 3 (by omega), h.hi 3 (by omega)⟩⟩
def toSM (p : Int × Int) : S98 := ⟨p.1, p.2⟩
def stepsM (k : Nat → Int) (x : Sd) (l : List Int) : List (Int × Int) := (l.filter fun set => decide (0 < goD k x set)).map fun set => (idn k (goS k x set), goD k x set)
theorem stepsM_l0 (a b c d : Int) (hk : isKitB (v4 a b c d) = true) (x0 x1 x2 x3 : Int) (hx : Sand (v4 a b c d) (fn4 (x0, x1, x2, x3))) : ∀ (m i : Nat) (acc : List S98), i + m = 16 → acc.length ≤ i → spec_l4Next.l0 (m + 1) acc (i : Int) a b c d x0 x1 x2 x3 = some (acc ++ (stepsM (v4 a b c d) (x0, x1, x2, x3) (((List.range' i m).map fun (j : Nat) => (j : Int)).filter (isSetB (v4 a b c d)))).map toSM)
  | 0, i, acc, h, ha => by
    simp only [spec_l4Next.l0]
    rw [if_neg (by omega)]
    simp [stepsM]
  | m + 1, i, acc, h, ha => by
    have hs : xL2Set.f a b c d (i : Int) = some (isSetB (v4 a b c d) (i : Int)) := rfl
    have hw : wrap64 ((i : Int) + 1) = ((i + 1 : Nat) : Int) := by unfold wrap64; omega
    rw [spec_l4Next.l0, if_pos (by omega), hs, Option.bind_some]
    cases hb : isSetB (v4 a b c d) (i : Int)
    · rw [if_neg (by simp), hw, stepsM_l0 a b c d hk x0 x1 x2 x3 hx m (i + 1) acc (by omega) (by omega)]
      simp [List.range'_succ, hb]
    · rw [if_pos rfl]
      have ht : xL2Step.f a b c d x0 x1 x2 x3 (i : Int) = some ((stepS (v4 a b c d) (fn4 (x0, x1, x2, x3)) i) 0, (stepS (v4 a b c d) (fn4 (x0, x1, x2, x3)) i) 1, (stepS (v4 a b c d) (fn4 (x0, x1, x2, x3)) i) 2, (stepS (v4 a b c d) (fn4 (x0, x1, x2, x3)) i) 3, stepD (v4 a b c d) (fn4 (x0, x1, x2, x3)) i) := by
        unfold xL2Step.f
        have : (isKitB (v4 a b c d) && isSandB (v4 a b c d) (v4 x0 x1 x2 x3)) = true := by rw [hk, show isSandB (v4 a b c d) (v4 x0 x1 x2 x3) = true from sandB_ofM hx]; rfl
        rw [if_pos this]
        rfl
      rw [ht, Option.bind_some]
      simp only []
      have hd : stepD (v4 a b c d) (fn4 (x0, x1, x2, x3)) i = goD (v4 a b c d) (x0, x1, x2, x3) i := rfl
      rw [hd]
      by_cases q : 0 < goD (v4 a b c d) (x0, x1, x2, x3) i
      · rw [if_pos q]
        have hi : xL4Id.f a b c d (stepS (v4 a b c d) (fn4 (x0, x1, x2, x3)) i 0) (stepS (v4 a b c d) (fn4 (x0, x1, x2, x3)) i 1) (stepS (v4 a b c d) (fn4 (x0, x1, x2, x3)) i 2) (stepS (v4 a b c d) (fn4 (x0, x1, x2, x3)) i 3) = some (idn (v4 a b c d) (goS (v4 a b c d) (x0, x1, x2, x3) i)) := rfl
        rw [hi, Option.bind_some, if_pos (by omega), hw, stepsM_l0 a b c d hk x0 x1 x2 x3 hx m (i + 1) _ (by omega) (by simp; omega)]
        simp [List.range'_succ, hb, stepsM, q, toSM]
      · rw [if_neg q, hw, stepsM_l0 a b c d hk x0 x1 x2 x3 hx m (i + 1) acc (by omega) (by omega)]
        simp [List.range'_succ, hb, stepsM, q]
theorem stepsM_ev (a b c d : Int) (hk : isKitB (v4 a b c d) = true) (id : Int) (h0 : 0 ≤ id) : Ev (fun f => spec_l4Next.f f a b c d ((sandAt (v4 a b c d) id) 0) ((sandAt (v4 a b c d) id) 1) ((sandAt (v4 a b c d) id) 2) ((sandAt (v4 a b c d) id) 3)) ((nextL (v4 a b c d) id).map toSM) := by
  have hx := sandX_sand (kit_bounds hk) (id := id) h0
  have := stepsM_l0 a b c d hk _ _ _ _ hx 16 0 [] (by omega) (by simp)
  refine Ev.of (k := 17) (fun n => spec_l4Next.mono _ _ _ _ _ _ _ _ n) ?_
  unfold spec_l4Next.f
  rw [show (0 : Int) = ((0 : Nat) : Int) from rfl, this, List.nil_append]
  rfl
/-! the table -/
def rowM (k : Nat → Int) (N t : Nat) : List Bool := (List.range N).map fun i => mB k t (sandX k (i : Nat))
/-- the reference's table: a row for each span, a column for each sand -/
def measT (k : Nat → Int) (N T : Nat) : List (List Bool) := List.replicate N false :: (List.range T).map fun t => rowM k N (t + 1)
def hitM (k : Nat → Int) (t : Nat) (p : Int × Int) : Bool := decide (p.2 ≤ (t : Int)) && mB k (t - p.2.toNat) (sandX k p.1)
theorem any_hit {k : Nat → Int} (hk : ∀ i, i < 4 → 0 ≤ k i ∧ k i ≤ 30) {id : Int} (h0 : 0 ≤ id) (t : Nat) : (nextL k id).any (hitM k (t + 1)) = mB k (t + 1) (sandX k id) := by
  have hS := sandX_sand hk h0
  rw [mB_succ, Bool.eq_iff_iff, List.any_eq_true, List.any_eq_true]
  constructor
  · rintro ⟨p, hp, hh⟩
    obtain ⟨set, s1, s2, s3, s4, s5, s6, s7⟩ := nextL_mem hk h0 hp
    refine ⟨(goS k (sandX k id) set, goD k (sandX k id) set), edges_mem.2 ⟨set, s1, s2, rfl⟩, ?_⟩
    rw [hit_mB s2]
    unfold hitM at hh
    rw [s4, s7] at hh
    simpa using hh
  · rintro ⟨e, he, hh⟩
    obtain ⟨set, s1, s2, rfl⟩ := edges_mem.1 he
    refine ⟨(idn k (goS k (sandX k id) set), goD k (sandX k id) set), List.mem_map.2 ⟨set, List.mem_filter.2 ⟨s1, decide_eq_true s2⟩, rfl⟩, ?_⟩
    rw [hit_mB s2] at hh
    unfold hitM
    simp only
    rw [show sandX k (idn k (goS k (sandX k id) set)) = goS k (sandX k id) set from sandX_idn hk (sand_tup (hS.step set))]
    simpa using hh
theorem rowM_len (k : Nat → Int) (N t : Nat) : (rowM k N t).length = N := by simp [rowM]
theorem rowM_rd {k : Nat → Int} {N t : Nat} {i : Int} (h0 : 0 ≤ i) (h1 : i < N) : rdOf false (rowM k N t) i = mB k t (sandX k i) := by
  unfold rdOf rowM
  rw [List.getD_eq_getElem?_getD, List.getElem?_map, List.getElem?_range (by omega)]
  show mB k t (sandX k ((i.toNat : Nat) : Int)) = _
  rw [show ((i.toNat : Nat) : Int) = i by omega]
theorem measT_len (k : Nat → Int) (N T : Nat) : (measT k N T).length = T + 1 := by simp [measT]
theorem measT_at {k : Nat → Int} {N T : Nat} {u : Nat} (h0 : 1 ≤ u) (h1 : u ≤ T) : (measT k N T).getD u [] = rowM k N u := by
  obtain ⟨v, rfl⟩ : ∃ v, u = v + 1 := ⟨u - 1, by omega⟩
  unfold measT
  rw [List.getD_cons_succ, List.getD_eq_getElem?_getD, List.getElem?_map, List.getElem?_range (by omega)]
  rfl
theorem measT_rd {k : Nat → Int} {N T : Nat} {u : Int} (h0 : 1 ≤ u) (h1 : u ≤ T) : rd_L6 (measT k N T) u = rowM k N u.toNat := by
  unfold rd_L6
  exact measT_at (by omega) (by omega)
theorem measT_succ (k : Nat → Int) (N T : Nat) : measT k N (T + 1) = measT k N T ++ [rowM k N (T + 1)] := by
  unfold measT
  rw [List.range_succ, List.map_append]
  rfl
/-- a row under way -/
def rowU (k : Nat → Int) (N t i : Nat) (b : Bool) : List Bool := (List.range N).map fun j => if j < i then mB k t (sandX k (j : Nat)) else if j = i then b else false
theorem rowU_len (k : Nat → Int) (N t i : Nat) (b : Bool) : (rowU k N t i b).length = N := by simp [rowU]
theorem rowU_rd {k : Nat → Int} {N t i : Nat} {b : Bool} (h1 : i < N) : rdOf false (rowU k N t i b) (i : Int) = b := by
  unfold rdOf rowU
  rw [Int.toNat_natCast, List.getD_eq_getElem?_getD, List.getElem?_map, List.getElem?_range h1]
  simp
theorem rowU_set {k : Nat → Int} {N t i : Nat} {b : Bool} (c : Bool) (h1 : i < N) : (rowU k N t i b).set i c = rowU k N t i c := by
  refine List.ext_getElem (by simp [rowU]) fun j h1 h2 => ?_
  rw [List.getElem_set]
  simp only [rowU, List.getElem_map, List.getElem_range]
  by_cases q : i = j
  · rw [if_pos q, if_neg (by omega), if_pos q.symm]
  · rw [if_neg q]
    by_cases q2 : j < i
    · rw [if_pos q2, if_pos q2]
    · rw [if_neg q2, if_neg q2, if_neg (Ne.symm q), if_neg (Ne.symm q)]
theorem rowU_next {k : Nat → Int} {N t i : Nat} : rowU k N t i (mB k t (sandX k (i : Nat))) = rowU k N t (i + 1) false := by
  unfold rowU
  refine List.map_congr_left fun j hj => ?_
  by_cases q : j < i
  · rw [if_pos q, if_pos (by omega)]
  · rw [if_neg q]
    by_cases q2 : j = i
    · rw [if_pos q2, if_pos (by omega), q2]
    · rw [if_neg q2, if_neg (by omega)]
      split <;> rfl
theorem rowU_zero {k : Nat → Int} {N t : Nat} : rowU k N t 0 false = List.replicate N false := by
  refine List.ext_getElem (by simp [rowU]) fun j h1 h2 => ?_
  simp [rowU]
theorem rowU_all {k : Nat → Int} {N t : Nat} : rowU k N t N false = rowM k N t := by
  unfold rowU rowM
  refine List.map_congr_left fun j hj => ?_
  rw [if_pos (List.mem_range.1 hj)]
def stepsT (k : Nat → Int) (N : Nat) : List (List S98) := (List.range N).map fun i => (nextL k (i : Nat)).map toSM
theorem stepsT_len (k : Nat → Int) (N : Nat) : (stepsT k N).length = N := by simp [stepsT]
theorem stepsT_rd {k : Nat → Int} {N i : Nat} (h : i < N) : rd_L5 (stepsT k N) (i : Int) = (nextL k (i : Nat)).map toSM := by
  unfold rd_L5 stepsT
  rw [Int.toNat_natCast, List.getD_eq_getElem?_getD, List.getElem?_map, List.getElem?_range h]
  rfl
section
variable {k : Nat → Int} {N T : Nat} (hk : ∀ i, i < 4 → 0 ≤ k i ∧ k i ≤ 30) (hN : (N : Int) = prodT k) (hN2 : N ≤ 3000) (hT : T ≤ 60)
include hk hN hN2 hT
theorem meas_l3 (t i : Nat) (ht : 1 ≤ t) (htT : t ≤ T) (hi : i < N) (r : List (List Bool)) : ∀ (m j : Nat) (b : Bool), j + m = (nextL k (i : Nat)).length → Ev (fun f => spec_l4Measured.l2 f (T : Int) (N : Int) (stepsT k N) (measT k N (t - 1)) (t : Int) (rowU k N t i (b || ((nextL k (i : Nat)).drop j).any (hitM k t))) ((i : Int) + 1)) r → Ev (fun f => spec_l4Measured.l3 f (T : Int) (N : Int) (stepsT k N) (measT k N (t - 1)) (t : Int) (rowU k N t i b) (i : Int) (j : Int)) r := by
  have hlen := nextL_len k (i : Nat)
  have hw : wrap64 ((i : Int) + 1) = (i : Int) + 1 := wrap_big (by omega) (by omega)
  intro m
  induction m with
  | zero =>
    intro j b hj h
    rw [List.drop_eq_nil_of_le (by omega)] at h
    simp only [List.any_nil, Bool.or_false] at h
    refine Ev.step (f := fun f => _) (fun f => by simp only [spec_l4Measured.l3]; rfl) ?_
    refine ev_pos (by omega) (ev_pos (by rw [stepsT_len]; omega) (ev_neg (by rw [stepsT_rd hi, List.length_map]; omega) ?_))
    rw [hw]
    exact h
  | succ m ih =>
    intro j b hj h
    have hjl : j < (nextL k (i : Nat)).length := by omega
    have hwj : wrap64 ((j : Int) + 1) = ((j + 1 : Nat) : Int) := by unfold wrap64; omega
    obtain ⟨p, hp⟩ : ∃ p, (nextL k (i : Nat))[j]? = some p := ⟨_, List.getElem?_eq_getElem hjl⟩
    have hpm : p ∈ nextL k (i : Nat) := List.mem_of_getElem? hp
    obtain ⟨set, s1, s2, s3, s4, s5, s6, s7⟩ := nextL_mem hk (by omega) hpm
    have hrd : rd_T98 (rd_L5 (stepsT k N) (i : Int)) (j : Int) = toSM p := by
      rw [stepsT_rd hi]
      unfold rd_T98
      rw [Int.toNat_natCast, List.getD_eq_getElem?_getD, List.getElem?_map, hp]
      rfl
    have hdr : (nextL k (i : Nat)).drop j = p :: (nextL k (i : Nat)).drop (j + 1) := by
      rw [List.drop_eq_getElem_cons hjl]
      have : (nextL k (i : Nat))[j] = p := by rw [List.getElem?_eq_getElem hjl] at hp; exact Option.some.inj hp
      rw [this]
    refine Ev.step (f := fun f => _) (fun f => by simp only [spec_l4Measured.l3]; rfl) ?_
    refine ev_pos (by omega) (ev_pos (by rw [stepsT_len]; omega) (ev_pos (by rw [stepsT_rd hi, List.length_map]; omega) (ev_pos (by rw [rowU_len]; omega) ?_)))
    rw [rowU_rd hi]
    cases b with
    | true =>
      refine ev_pos rfl ?_
      rw [hw]
      simpa using h
    | false =>
      refine ev_neg (by simp) (ev_pos (by omega) ?_)
      rw [hrd, Int.toNat_natCast, hwj]
      simp only [toSM]
      rw [hdr, List.any_cons, Bool.false_or] at h
      by_cases q : p.2 = (t : Int)
      · refine ev_pos q ?_
        rw [rowU_set _ hi]
        refine ih (j + 1) true (by omega) ?_
        have : hitM k t p = true := by
          unfold hitM
          rw [q, Int.toNat_natCast, Nat.sub_self, mB_zero]
          simp
        rw [this] at h
        simpa using h
      · refine ev_neg q ?_
        by_cases q2 : p.2 < (t : Int)
        · have hwd : wrap64 ((t : Int) - p.2) = (t : Int) - p.2 := wrap_big (by omega) (by omega)
          refine ev_pos q2 ?_
          simp only [toSM, hwd]
          have hrow : rd_L6 (measT k N (t - 1)) ((t : Int) - p.2) = rowM k N ((t : Int) - p.2).toNat := measT_rd (by omega) (by omega)
          refine ev_pos (by omega) (ev_pos (by rw [measT_len]; omega) (ev_pos s5 ?_))
          rw [hrow]
          refine ev_pos (by rw [rowM_len]; omega) ?_
          rw [rowM_rd s5 (by omega), rowU_set _ hi]
          refine ih (j + 1) _ (by omega) ?_
          have : hitM k t p = mB k ((t : Int) - p.2).toNat (sandX k p.1) := by
            unfold hitM
            rw [decide_eq_true (by omega), Bool.true_and, show t - p.2.toNat = ((t : Int) - p.2).toNat by omega]
          rw [this] at h
          exact h
        · refine ev_neg q2 ?_
          rw [rowU_set _ hi]
          refine ih (j + 1) false (by omega) ?_
          have : hitM k t p = false := by
            unfold hitM
            rw [decide_eq_false (by omega), Bool.false_and]
          rw [this] at h
          exact h
theorem meas_l2 (t : Nat) (ht : 1 ≤ t) (htT : t ≤ T) (r : List (List Bool)) : ∀ (m i : Nat), i + m = N → Ev (fun f => spec_l4Measured.l1 f (T : Int) (N : Int) (stepsT k N) (measT k N t) ((t : Int) + 1)) r → Ev (fun f => spec_l4Measured.l2 f (T : Int) (N : Int) (stepsT k N) (measT k N (t - 1)) (t : Int) (rowU k N t i false) (i : Int)) r := by
  intro m
  induction m with
  | zero =>
    intro i hi h
    refine Ev.step (f := fun f => _) (fun f => by simp only [spec_l4Measured.l2]; rfl) ?_
    refine ev_neg (by omega) (ev_pos (by rw [measT_len]; omega) ?_)
    rw [wrap_big (by omega) (by omega), show i = N by omega, rowU_all]
    have := measT_succ k N (t - 1)
    rw [show t - 1 + 1 = t by omega] at this
    rw [← this]
    exact h
  | succ m ih =>
    intro i hi h
    refine Ev.step (f := fun f => _) (fun f => by simp only [spec_l4Measured.l2]; rfl) ?_
    refine ev_pos (by omega) ?_
    refine meas_l3 hk hN hN2 hT t i ht htT (by omega) r (nextL k (i : Nat)).length 0 false (by omega) ?_
    obtain ⟨t', rfl⟩ : ∃ t', t = t' + 1 := ⟨t - 1, by omega⟩
    rw [List.drop_zero, Bool.false_or, any_hit hk (by omega), rowU_next]
    have := ih (i + 1) (by omega) h
    exact this
theorem meas_l1 : ∀ (m t : Nat), t + m = T → Ev (fun f => spec_l4Measured.l1 f (T : Int) (N : Int) (stepsT k N) (measT k N t) ((t : Int) + 1)) (measT k N T) := by
  intro m
  induction m with
  | zero =>
    intro t h
    refine Ev.step (f := fun f => _) (fun f => by simp only [spec_l4Measured.l1]; rfl) ?_
    rw [show t = T by omega]
    exact ev_neg (by omega) (Ev.now _)
  | succ m ih =>
    intro t h
    refine Ev.step (f := fun f => _) (fun f => by simp only [spec_l4Measured.l1]; rfl) ?_
    refine ev_pos (by omega) (ev_pos (by omega) (ev_pos (by omega) ?_))
    have := meas_l2 hk hN hN2 hT (t + 1) (by omega) (by omega) (measT k N T) N 0 (by omega) (by
      have := ih (t + 1) (by omega)
      exact this)
    rw [rowU_zero] at this
    rw [Int.toNat_natCast]
    exact this
end
theorem stepsT_succ (k : Nat → Int) (i : Nat) : stepsT k (i + 1) = stepsT k i ++ [(nextL k (i : Nat)).map toSM] := by
  unfold stepsT
  rw [List.range_succ, List.map_append]
  rfl
theorem meas_l0 (a b c d : Int) (hk : isKitB (v4 a b c d) = true) {N T : Nat} (hN : (N : Int) = prodT (v4 a b c d)) (hN2 : N ≤ 3000) (hT : T ≤ 60) : ∀ (m i : Nat), i + m = N → Ev (fun f => spec_l4Measured.l0 f (T : Int) (N : Int) (stepsT (v4 a b c d) i) (i : Int) a b c d) (measT (v4 a b c d) N T) := by
  have hkb := kit_bounds hk
  intro m
  induction m with
  | zero =>
    intro i h
    refine Ev.step (f := fun f => _) (fun f => by simp only [spec_l4Measured.l0]; rfl) ?_
    refine ev_neg (by omega) (ev_pos (by omega) (ev_pos (by omega) ?_))
    rw [Int.toNat_natCast, show i = N by omega]
    exact meas_l1 hkb hN hN2 hT T 0 (by omega)
  | succ m ih =>
    intro i h
    have hs : xL4Sand.f a b c d (i : Int) = some ((sandAt (v4 a b c d) (i : Int)) 0, (sandAt (v4 a b c d) (i : Int)) 1, (sandAt (v4 a b c d) (i : Int)) 2, (sandAt (v4 a b c d) (i : Int)) 3) := by
      unfold xL4Sand.f
      rw [if_pos]
      rw [Bool.and_eq_true]
      refine ⟨?_, inB_iff.2 ⟨by omega, by omega⟩⟩
      unfold kitB30
      have := fun i hi => inB_iff.2 (hkb i hi)
      simp only [Bool.and_eq_true]
      exact ⟨⟨⟨this 0 (by omega), this 1 (by omega)⟩, this 2 (by omega)⟩, this 3 (by omega)⟩
    refine Ev.step (f := fun f => _) (fun f => by simp only [spec_l4Measured.l0]; rfl) ?_
    refine ev_pos (by omega) ?_
    refine ev_bind0 hs ?_
    refine Ev.bind (stepsM_ev a b c d hk (i : Int) (by omega)) ?_
    refine ev_pos (by rw [stepsT_len]; omega) ?_
    rw [show wrap64 ((i : Int) + 1) = ((i + 1 : Nat) : Int) by unfold wrap64; omega, ← stepsT_succ]
    exact ih (i + 1) (by omega)
theorem meas_ev (a b c d : Int) (hk : isKitB (v4 a b c d) = true) {N T : Nat} (hN : (N : Int) = prodT (v4 a b c d)) (hN2 : N ≤ 3000) (hT : T ≤ 60) : Ev (fun f => spec_l4Measured.f f a b c d (T : Int)) (measT (v4 a b c d) N T) := by
  have hp : xL4Many.f a b c d = some (N : Int) := by
    show some (prodOf (v4 a b c d)) = _
    rw [(prod_is (kit_bounds hk)).1, ← hN]
  refine Ev.congr (f := fun f => spec_l4Measured.l0 f (T : Int) (N : Int) [] 0 a b c d) (fun f => by unfold spec_l4Measured.f; rw [hp]; rfl) ?_
  exact meas_l0 a b c d hk hN hN2 hT N 0 (by omega)
end Go.Proofs.Ytlhodfjdmafapaa
end
section
namespace Go.Proofs.Ytlhodfjdmafapaa
open Go.RowKit Go.Maps Go.Proofs.YtlhodfjdmafapaaW.PrintWords Go.Proofs.YtlhodfjdmafapaaW.PrintLast Go.Proofs.Ytlhodfjdmafapaa.QMs
set_option linter.unusedVariables false
set_option linter.unusedSimpArgs false
theorem nar_splitM (k s : Nat → Int) : narB k s = ((isKitB k && decide (prodOf k ≤ 3000)) && (isSandB k s && isKitB k)) := by
  unfold narB
  cases isKitB k <;> cases isSandB k s <;> cases decide (prodOf k ≤ 3000) <;> rfl
theorem l1In_is (a b c : Int) : spec_l1In.f a b c = some (inB b c a) := by
  unfold spec_l1In.f inB
  by_cases q : b ≤ a
  · rw [if_pos q, decide_eq_true q, Bool.true_and]
  · rw [if_neg q, decide_eq_false q, Bool.false_and]
theorem spanS_c (t : Int) (w : World) : Calls Try.prog 52 #[.int .i64 t] w fun e w' => e = .returned (.bool (inB 1 60 t)) ∧ Below w.heap.size w w' := by
  refine (spec_l4Span.calls t (inB 1 60 t) w ?_).mono fun e w' ⟨h1, h2⟩ => ⟨h1, h2.below⟩
  unfold spec_l4Span.f
  rw [l1In_is]
  rfl
theorem edgesL_v4 (k : Nat → Int) (x : Sd) : edgesL (v4 (k 0) (k 1) (k 2) (k 3)) x = edgesL k x := rfl
theorem bvN_v4 (k : Nat → Int) : ∀ (t : Nat) (x : Sd), bvN (v4 (k 0) (k 1) (k 2) (k 3)) t x = bvN k t x
  | 0, x => rfl
  | t + 1, x => by
    have : bvN (v4 (k 0) (k 1) (k 2) (k 3)) t = bvN k t := funext (bvN_v4 k t)
    rw [bvN, bvN, edgesL_v4, this]
theorem mB_v4 (k : Nat → Int) (t : Nat) (x : Sd) : mB (v4 (k 0) (k 1) (k 2) (k 3)) t x = mB k t x := by
  unfold mB
  rw [bvN_v4]
theorem sandX_v4 (k : Nat → Int) (i : Int) : sandX (v4 (k 0) (k 1) (k 2) (k 3)) i = sandX k i := rfl
theorem measT_v4 (k : Nat → Int) (N T : Nat) : measT (v4 (k 0) (k 1) (k 2) (k 3)) N T = measT k N T := by
  unfold measT rowM
  simp only [mB_v4, sandX_v4]
theorem meas_c (k : Nat → Int) (hk : isKitB k = true) {N T : Nat} (hN : (N : Int) = prodT k) (hN2 : N ≤ 3000) (hT : T ≤ 60) (w : World) : Calls Try.prog 53 #[A4 k, .int .i64 (T : Int)] w fun e w' => ∃ v0 : Value, e = .returned v0 ∧ Kd.N (Kd.slice 4 Kd.bool) 60 w' w.heap.size (fun j => w.heap.size ≤ j) v0 (measT k N T) ∧ Below w.heap.size w w' := by
  obtain ⟨f, hf⟩ := Ev.rounds (meas_ev (k 0) (k 1) (k 2) (k 3) hk hN hN2 hT)
  rw [measT_v4] at hf
  exact spec_l4Measured.calls f (k 0) (k 1) (k 2) (k 3) (T : Int) _ w hf
/-- reading the table -/
theorem meas_read {W : World} {base : Nat} {ok : Nat → Prop} {v : Value} {k : Nat → Int} {N T : Nat} (h : Kd.N (Kd.slice 4 Kd.bool) 60 W base ok v (measT k N T)) : ∃ g cap, v = .slice (some ⟨g, 0, none⟩) (T + 1) cap ∧ ∀ u : Nat, 1 ≤ u → u ≤ T → ∃ A0 c0, W.cell? ⟨g, u, none⟩ = some (.slice A0 N c0) ∧ ∀ i : Nat, i < N → ∃ ad : Addr, A0 = some ad ∧ W.cell? (ad.add i) = some (.bool (mB k u (sandX k (i : Nat)))) := by
  obtain ⟨g, cap, rfl, _⟩ := Kd.N_form h (by rw [measT_len]; omega)
  refine ⟨g, cap, by rw [measT_len], fun u h1 h2 => ?_⟩
  obtain ⟨ad, A0, c0, e, hx, hl, hC⟩ := at_L6 (Kd.N_reads' h).2.2 (u : Int) (by omega) (by rw [measT_len]; omega)
  cases e
  rw [measT_rd (by omega) (by omega), Int.toNat_natCast] at hx hl hC
  rw [rowM_len] at hx hl hC
  refine ⟨A0, c0, by simpa [Addr.add, show u ≠ 0 by omega] using hx, fun i hi => ?_⟩
  obtain ⟨ad, c, e, _, hK, hc⟩ := Kd.C_get hC false (i : Int) (by omega) (by omega)
  have hc2 := hc 0 _ (show c[0]? = some (.bool (rdOf false (rowM k N u) (i : Int))) by
    have : c = [.bool (rdOf false (rowM k N u) (i : Int))] := hK
    rw [this]; rfl)
  rw [rowM_rd (by omega) (by omega)] at hc2
  refine ⟨ad, e, ?_⟩
  rw [show ((i : Int).toNat * Kd.bool.sz + 0) = i by rw [Int.toNat_natCast]; show i * 1 + 0 = i; omega] at hc2
  exact hc2
set_option maxRecDepth 100000 in
set_option maxHeartbeats 4000000 in
theorem measS_b (k : Nat → Int) (s : Sd) (t : Int) (b1 b2 b3 : Bool) (h1 : (isKitB k && decide (prodOf k ≤ 3000)) = b1) (h2 : (isSandB k (fn4 s) && isKitB k) = b2) (h3 : inB 1 60 t = b3) (w : World) : Calls Try.prog 20 #[A4 k, A4 (fn4 s), .int .i64 t] w fun e w' => e = .returned (.tuple #[.bool (b1 && b2 && b3 && mB k t.toNat s), .bool (b1 && b2 && b3)]) ∧ Below w.heap.size w w' := by
  have H1 := Aside0.mk h1
  have H2 := Aside0.mk h2
  have H3 := Aside0.mk h3
  clear h1 h2 h3
  go_enter Try.func20, Try.ntmps20
  go_wp2_with fail
  have hc1 := l4Narrow_any k
  rw [H1.out] at hc1
  refine (hc1 _).mono ?_
  rintro e w1 ⟨rfl, hb⟩
  have HK1 := Aside0.mk (blk_below (blk_alloc (heap_alloc_new w (.cells #[.int .i64 (k 0), .int .i64 (k 1), .int .i64 (k 2), .int .i64 (k 3)] 27 (0, 0))) (.cells #[.int .i64 (fn4 s 0), .int .i64 (fn4 s 1), .int .i64 (fn4 s 2), .int .i64 (fn4 s 3)] 22 (0, 0))) hb)
  have HS1 := Aside0.mk (show w1.heap[w.heap.size + 1]? = some (.cells #[.int .i64 (fn4 s 0), .int .i64 (fn4 s 1), .int .i64 (fn4 s 2), .int .i64 (fn4 s 3)] 22 (0, 0)) by
    have := blk_below (heap_alloc_new (w.alloc (.cells #[.int .i64 (k 0), .int .i64 (k 1), .int .i64 (k 2), .int .i64 (k 3)] 27 (0, 0))) (.cells #[.int .i64 (fn4 s 0), .int .i64 (fn4 s 1), .int .i64 (fn4 s 2), .int .i64 (fn4 s 3)] 22 (0, 0))) hb
    simpa using this)
  have HB1 := Aside0.mk (show Below w.heap.size w w1 from below_chain (below_alloc (below_alloc (Below.refl _ _) _) _) hb)
  clear hb hc1
  cases b1 with
  | false =>
    go_wp2_with fail
    all_goals (go_ret2; exact ⟨rfl, HB1.out⟩)
  | true =>
    have MK0 := Aside0.mk (show ∀ W W' : World, W.heap[w.heap.size]? = some (.cells #[.int .i64 (k 0), .int .i64 (k 1), .int .i64 (k 2), .int .i64 (k 3)] 27 (0, 0)) → W.heap[w.heap.size + 1]? = some (.cells #[.int .i64 (fn4 s 0), .int .i64 (fn4 s 1), .int .i64 (fn4 s 2), .int .i64 (fn4 s 3)] 22 (0, 0)) → Below W.heap.size W W' → W'.cell? ⟨w.heap.size, 0, none⟩ = some (.int .i64 (k 0)) ∧ W'.cell? ⟨w.heap.size, 1, none⟩ = some (.int .i64 (k 1)) ∧ W'.cell? ⟨w.heap.size, 2, none⟩ = some (.int .i64 (k 2)) ∧ W'.cell? ⟨w.heap.size, 3, none⟩ = some (.int .i64 (k 3)) ∧ W'.cell? ⟨w.heap.size + 1, 0, none⟩ = some (.int .i64 (fn4 s 0)) ∧ W'.cell? ⟨w.heap.size + 1, 1, none⟩ = some (.int .i64 (fn4 s 1)) ∧ W'.cell? ⟨w.heap.size + 1, 2, none⟩ = some (.int .i64 (fn4 s 2)) ∧ W'.cell? ⟨w.heap.size + 1, 3, none⟩ = some (.int .i64 (fn4 s 3)) from fun W W' h1 h2 hb =>
      have e := blk_below h1 hb
      have e2 := blk_below h2 hb
      ⟨(blk_cell e 0).trans rfl, (blk_cell e 1).trans rfl, (blk_cell e 2).trans rfl, (blk_cell e 3).trans rfl, (blk_cell e2 0).trans rfl, (blk_cell e2 1).trans rfl, (blk_cell e2 2).trans rfl, (blk_cell e2 3).trans rfl⟩)
    obtain ⟨q0, q1, q2, q3, r0, r1, r2, r3⟩ := MK0.out w1 w1 HK1.out HS1.out (Below.refl _ _)
    go_wp2_with fail
    have hc2 := l2Sand_any k (fn4 s)
    rw [H2.out] at hc2
    refine (hc2 _).mono ?_
    rintro e w2 ⟨rfl, hb⟩
    have HK2 := Aside0.mk (blk_below HK1.out hb)
    have HS2 := Aside0.mk (blk_below HS1.out hb)
    have HB2 := Aside0.mk (below_chain HB1.out hb)
    clear hb hc2 q0 q1 q2 q3 r0 r1 r2 r3
    cases b2 with
    | false =>
      go_wp2_with fail
      all_goals (go_ret2; exact ⟨rfl, HB2.out⟩)
    | true =>
      have hc3 := spanS_c t
      rw [H3.out] at hc3
      go_wp2_with fail
      refine (hc3 _).mono ?_
      rintro e w3 ⟨rfl, hb⟩
      have HK3 := Aside0.mk (blk_below HK2.out hb)
      have HS3 := Aside0.mk (blk_below HS2.out hb)
      have HB3 := Aside0.mk (below_chain HB2.out hb)
      clear hb hc3
      cases b3 with
      | false =>
        go_wp2_with fail
        all_goals (go_ret2; exact ⟨rfl, HB3.out⟩)
      | true =>
        have hnar : narB k (fn4 s) = true := by rw [nar_splitM, H1.out, H2.out]; rfl
        obtain ⟨n1, n2, n3⟩ := nar_parts hnar
        have hsd := sand_of n1 n2
        have hk := kit_bounds n1
        have hin := H3.out
        rw [inB_iff] at hin
        obtain ⟨T, rfl⟩ : ∃ T : Nat, t = (T : Int) := ⟨t.toNat, by omega⟩
        have hT1 : 1 ≤ T := by omega
        have hT : T ≤ 60 := by omega
        have hp1 := (prod_is hk).2
        obtain ⟨N, hN⟩ : ∃ N : Nat, (N : Int) = prodT k := ⟨(prodT k).toNat, by omega⟩
        have hN2 : N ≤ 3000 := by omega
        have HM := fun W => meas_c k n1 hN hN2 hT W
        have hb := (idn_is hsd).2
        obtain ⟨id, hid⟩ : ∃ id : Nat, idn k s = (id : Int) := ⟨(idn k s).toNat, by omega⟩
        have hid1 : id < N := by omega
        have hidN : (id : Int) < (N : Int) := by omega
        have HID : ∀ W : World, Calls Try.prog 50 #[A4 k, A4 (fn4 s)] W fun e w' => e = .returned (.int .i64 (id : Int)) ∧ Below W.heap.size W w' := fun W => by
          have := l4Id_any k (fn4 s) W
          rw [show idOf k (fn4 s) = (id : Int) from hid] at this
          exact this
        have HX : sandX k (id : Nat) = s := by rw [← hid]; exact sandX_idn hk hsd
        have hTT : (T : Int) < (T : Int) + 1 := by omega
        clear n1 n2 n3 hsd hk hb hnar hin hp1 hN hid
        have MK1 := Aside0.mk (show ∀ W' : World, Below w3.heap.size w3 W' → W'.cell? ⟨w.heap.size, 0, none⟩ = some (.int .i64 (k 0)) ∧ W'.cell? ⟨w.heap.size, 1, none⟩ = some (.int .i64 (k 1)) ∧ W'.cell? ⟨w.heap.size, 2, none⟩ = some (.int .i64 (k 2)) ∧ W'.cell? ⟨w.heap.size, 3, none⟩ = some (.int .i64 (k 3)) ∧ W'.cell? ⟨w.heap.size + 1, 0, none⟩ = some (.int .i64 (fn4 s 0)) ∧ W'.cell? ⟨w.heap.size + 1, 1, none⟩ = some (.int .i64 (fn4 s 1)) ∧ W'.cell? ⟨w.heap.size + 1, 2, none⟩ = some (.int .i64 (fn4 s 2)) ∧ W'.cell? ⟨w.heap.size + 1, 3, none⟩ = some (.int .i64 (fn4 s 3)) from fun W' hb => MK0.out w3 W' HK3.out HS3.out hb)
        go_wp2_with fail
        go_cut [6, 7] (fun v6 v7 wx => v6 = .bool (mB k T s) ∧ v7 = .bool true ∧ Aside0 (Below w3.heap.size w3 wx))
        case first =>
          obtain ⟨k0, k1, k2, k3, s0, s1, s2, s3⟩ := MK1.out w3 (Below.refl _ _)
          go_region_law
            (first
              | (go_simp; go_at_call 53; refine (HM _).mono ?_; rintro e w9 ⟨v0, rfl, hR, hb9⟩; have q9 : Below w3.heap.size w3 w9 := below_chain (by ((repeat first | (with_reducible assumption) | (with_reducible exact Below.refl _ _) | ((with_reducible refine bl_alloc _ ?_ ?_); focus (first | (simp; done) | (simp; omega) | omega | (with_reducible exact below_size (by with_reducible assumption)))) | (with_reducible refine Below.drew ?_) | (with_reducible refine bl_drewN _ ?_)); done)) hb9; obtain ⟨g, cp, rfl, hrd⟩ := meas_read hR; obtain ⟨A0, c0, hx, hrow⟩ := hrd T hT1 (Nat.le_refl _); obtain ⟨ad, rfl, hc⟩ := hrow id hid1; rw [HX] at hc; obtain ⟨k0, k1, k2, k3, s0, s1, s2, s3⟩ := MK1.out w9 q9)
              | (go_simp; go_at_call 50; refine (HID _).mono ?_; rintro e w8 ⟨rfl, hb8⟩; have q8 : Below w3.heap.size w3 w8 := below_chain (by ((repeat first | (with_reducible assumption) | (with_reducible exact Below.refl _ _) | ((with_reducible refine bl_alloc _ ?_ ?_); focus (first | (simp; done) | (simp; omega) | omega | (with_reducible exact below_size (by with_reducible assumption)))) | (with_reducible refine Below.drew ?_) | (with_reducible refine bl_drewN _ ?_)); done)) hb8; obtain ⟨k0, k1, k2, k3, s0, s1, s2, s3⟩ := MK1.out w8 q8; try (have hx8 := keep_below hb8 hx; have hc8 := keep_below hb8 hc)))
          all_goals
            go_wp2_with fail
            go_meet
            exact ⟨rfl, rfl, ⟨by first | exact q8 | exact q9⟩⟩
        case rest =>
          obtain ⟨rfl, rfl, HC⟩ := hcut
          have HBC := Aside0.mk (below_chain HB3.out HC.out)
          go_wp2_with fail
          all_goals (go_ret2; exact ⟨rfl, HBC.out⟩)
end Go.Proofs.Ytlhodfjdmafapaa
end
section
namespace Go.Proofs.Ytlhodfjdmafapaa
open Go.RowKit Go.Maps Go.Proofs.YtlhodfjdmafapaaW.PrintWords Go.Proofs.YtlhodfjdmafapaaW.PrintLast
set_option linter.unusedVariables false
def xMeas.f (a0_0 a0_1 a0_2 a0_3 a1_0 a1_1 a1_2 a1_3 a2 : Int) : Option (Bool × Bool) := some (narB (v4 a0_0 a0_1 a0_2 a0_3) (fn4 (a1_0, a1_1, a1_2, a1_3)) && inB 1 60 a2 && mB (v4 a0_0 a0_1 a0_2 a0_3) a2.toNat (a1_0, a1_1, a1_2, a1_3), narB (v4 a0_0 a0_1 a0_2 a0_3) (fn4 (a1_0, a1_1, a1_2, a1_3)) && inB 1 60 a2)
theorem xMeas.calls (a0_0 a0_1 a0_2 a0_3 a1_0 a1_1 a1_2 a1_3 a2 : Int) (r1 r2 : Bool) (w : World) (h : xMeas.f a0_0 a0_1 a0_2 a0_3 a1_0 a1_1 a1_2 a1_3 a2 = some (r1, r2)) : Calls Try.prog 21 #[.agg #[.int .i64 a0_0, .int .i64 a0_1, .int .i64 a0_2, .int .i64 a0_3], .agg #[.int .i64 a1_0, .int .i64 a1_1, .int .i64 a1_2, .int .i64 a1_3], .int .i64 a2] w fun e w' => e = .returned (.tuple #[.bool r1, .bool r2]) ∧ Below w.heap.size w w' := by
  unfold xMeas.f at h
  simp only [Option.some.injEq, Prod.mk.injEq] at h
  obtain ⟨rfl, rfl⟩ := h
  exact meas_b (v4 a0_0 a0_1 a0_2 a0_3) a1_0 a1_1 a1_2 a1_3 a2 _ _ rfl rfl w
def xMeasS.f (a0_0 a0_1 a0_2 a0_3 a1_0 a1_1 a1_2 a1_3 a2 : Int) : Option (Bool × Bool) := xMeas.f a0_0 a0_1 a0_2 a0_3 a1_0 a1_1 a1_2 a1_3 a2
theorem xMeasS.calls (a0_0 a0_1 a0_2 a0_3 a1_0 a1_1 a1_2 a1_3 a2 : Int) (r1 r2 : Bool) (w : World) (h : xMeasS.f a0_0 a0_1 a0_2 a0_3 a1_0 a1_1 a1_2 a1_3 a2 = some (r1, r2)) : Calls Try.prog 20 #[.agg #[.int .i64 a0_0, .int .i64 a0_1, .int .i64 a0_2, .int .i64 a0_3], .agg #[.int .i64 a1_0, .int .i64 a1_1, .int .i64 a1_2, .int .i64 a1_3], .int .i64 a2] w fun e w' => e = .returned (.tuple #[.bool r1, .bool r2]) ∧ Below w.heap.size w w' := by
  unfold xMeasS.f xMeas.f at h
  simp only [Option.some.injEq, Prod.mk.injEq] at h
  obtain ⟨rfl, rfl⟩ := h
  rw [nar_splitM]
  exact measS_b (v4 a0_0 a0_1 a0_2 a0_3) (a1_0, a1_1, a1_2, a1_3) a2 _ _ _ rfl rfl rfl w
end Go.Proofs.Ytlhodfjdmafapaa
end
