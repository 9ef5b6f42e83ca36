/- Contracts: how many sands are met, when a sand is met; the reference's table. No statement of the seat is proved here. -/
import Derived.Test.YtlhodfjdmafapaaMetW
import Derived.Test.YtlhodfjdmafapaaEarlW
import Derived.Deep.RegionLaw
namespace Go.Proofs.Ytlhodfjdmafapaa
open Go.RowKit Go.Maps Go.Proofs.YtlhodfjdmafapaaW.PrintWords Go.Proofs.YtlhodfjdmafapaaW.PrintLast Go.Proofs.Ytlhodfjdmafapaa.QIm
set_option linter.unusedVariables false
set_option linter.unusedSimpArgs false
def narB (k s : Nat → Int) : Bool := (isKitB k && isSandB k s) && decide (prodOf k ≤ 3000)
theorem nar_any (k s : Nat → Int) (b : Bool) (h : narB k s = b) (w : World) : Calls Try.prog 46 #[A4 k, A4 s] w fun e w' => e = .returned (.bool b) ∧ Below w.heap.size w w' := by
  refine impl_isNarrow.calls (k 0) (k 1) (k 2) (k 3) (s 0) (s 1) (s 2) (s 3) b w ?_
  have e1 : xAreSand.f (k 0) (k 1) (k 2) (k 3) (s 0) (s 1) (s 2) (s 3) = some (isKitB k && isSandB k s) := rfl
  have e2 : xProduct.f (k 0) (k 1) (k 2) (k 3) = some (prodOf k) := rfl
  unfold impl_isNarrow.f
  rw [e1, Option.bind_some]
  unfold narB at h
  by_cases c : (isKitB k && isSandB k s) = true
  · rw [if_pos c, e2, Option.bind_some]
    rw [c, Bool.true_and] at h
    rw [h]
  · rw [if_neg c]
    rw [show (isKitB k && isSandB k s) = false by simpa using c, Bool.false_and] at h
    rw [h]
theorem nar_parts {k s : Nat → Int} (h : narB k s = true) : isKitB k = true ∧ isSandB k s = true ∧ prodT k ≤ 3000 := by
  unfold narB at h
  simp only [Bool.and_eq_true, decide_eq_true_eq] at h
  exact ⟨h.1.1, h.1.2, by rw [← (prod_is (kit_bounds h.1.1)).1]; exact h.2⟩
theorem own_look {P : Program} {k : TypeId} {α β : Type} {M : MapKd P k α β} {w : World} {b n : Nat} {L : List (α × β)} (h : M.own w b n L) {t e : TypeId} (ht : P.underlying t = some (.map k e)) {z : β} (hz : (zeroValue e).run P w = .ok (M.eV z) w) {key : α} (hg : M.good key) :
    (Instr.lookup t (.map (some b)) (M.eK key) true).run P w = .ok (.tuple #[M.eV ((getA L key).getD z), .bool (getA L key).isSome]) w := by
  obtain ⟨D, h1, h2⟩ := h
  obtain ⟨v, ps, hrun, hv⟩ := h1.look_ok M.law ht hz (show rdV (M.eV z) = some (.held (M.eV z), []) from rfl) (M.key key hg)
  have hv' : v = M.eV ((getA L key).getD z) := by
    simp only [rdV, Option.some.injEq, Prod.mk.injEq] at hv
    cases e1 : getA L key with
    | some y => rw [h2.at_some e1] at hv; simpa using hv.1
    | none => rw [Maps.atKey_of_not_has (h2.has_none hg e1)] at hv; simpa using hv.1
  rw [h2.has_eq hg, hv'] at hrun
  exact hrun
set_option maxRecDepth 100000 in
set_option maxHeartbeats 3200000 in
theorem countMet_b (k : Nat → Int) (b : Bool) (h : narB k (fun _ => 0) = b) (w : World) : Calls Try.prog 16 #[A4 k] w fun e w' => e = .returned (.tuple #[.int .i64 (if b = true then ((metL k).length : Int) else 0), .bool b]) ∧ Below w.heap.size w w' := by
  have HH := Aside0.mk h
  clear h
  go_enter Try.func16, Try.ntmps16
  go_wp2_with fail
  obtain ⟨w0, hw0⟩ : ∃ w0, w0 = w.alloc (.cells #[.int .i64 (k 0), .int .i64 (k 1), .int .i64 (k 2), .int .i64 (k 3)] 27 (0, 0)) := ⟨_, rfl⟩
  have HK := Aside0.mk (show w0.heap[w.heap.size]? = some (.cells #[.int .i64 (k 0), .int .i64 (k 1), .int .i64 (k 2), .int .i64 (k 3)] 27 (0, 0)) from by rw [hw0]; exact heap_alloc_new w _)
  have HB0 := Aside0.mk (show Below w.heap.size w w0 from by rw [hw0]; exact below_alloc (Below.refl _ _) _)
  rw [← hw0]
  clear hw0
  have MK1 := Aside0.mk (show ∀ W' : World, Below w0.heap.size w0 W' → W'.cell? ⟨w.heap.size, 0, none⟩ = some (.int .i64 (k 0)) ∧ W'.cell? ⟨w.heap.size, 1, none⟩ = some (.int .i64 (k 1)) ∧ W'.cell? ⟨w.heap.size, 2, none⟩ = some (.int .i64 (k 2)) ∧ W'.cell? ⟨w.heap.size, 3, none⟩ = some (.int .i64 (k 3)) from fun W' hb =>
    have e := blk_below HK.out hb
    ⟨(blk_cell e 0).trans rfl, (blk_cell e 1).trans rfl, (blk_cell e 2).trans rfl, (blk_cell e 3).trans rfl⟩)
  go_cut [7] (fun v7 wx => v7 = .bool (!b) ∧ Aside0 (Below w0.heap.size w0 wx))
  case first =>
    go_region_held3 (fun w' => w'.cell? ⟨w.heap.size, 0, none⟩ = some (.int .i64 (k 0)) ∧ w'.cell? ⟨w.heap.size, 1, none⟩ = some (.int .i64 (k 1)) ∧ w'.cell? ⟨w.heap.size, 2, none⟩ = some (.int .i64 (k 2)) ∧ w'.cell? ⟨w.heap.size, 3, none⟩ = some (.int .i64 (k 3)))
      (first | (refine MK1.out _ ?_; ((repeat first | (with_reducible assumption) | (with_reducible exact Below.refl _ _) | ((with_reducible refine bl_alloc _ ?_ ?_); focus (first | (simp; done) | (simp; omega) | omega | (exact below_size (by assumption)))) | (with_reducible refine Below.drew ?_) | (with_reducible refine bl_drewN _ ?_)); done)))
      (first
        | (go_at_call 47; refine (calm_c _).mono ?_; rintro e w7 ⟨rfl, hb7⟩; have q7 : Below w0.heap.size w0 w7 := below_chain (by ((repeat first | (with_reducible assumption) | (with_reducible exact Below.refl _ _) | ((with_reducible refine bl_alloc _ ?_ ?_); focus (first | (simp; done) | (simp; omega) | omega | (exact below_size (by assumption)))) | (with_reducible refine Below.drew ?_) | (with_reducible refine bl_drewN _ ?_)); done)) hb7)
        | (go_at_call 46; refine (nar_any k (fun _ => 0) b HH.out _).mono ?_; rintro e w8 ⟨rfl, hb8⟩; have q8 : Below w0.heap.size w0 w8 := below_chain (by ((repeat first | (with_reducible assumption) | (with_reducible exact Below.refl _ _) | ((with_reducible refine bl_alloc _ ?_ ?_); focus (first | (simp; done) | (simp; omega) | omega | (exact below_size (by assumption)))) | (with_reducible refine Below.drew ?_) | (with_reducible refine bl_drewN _ ?_)); done)) hb8))
    all_goals
      go_wp2_with fail
      go_meet
      exact ⟨rfl, ⟨q8⟩⟩
  case rest =>
    obtain ⟨rfl, HC⟩ := hcut
    have HBC := Aside0.mk (below_chain HB0.out HC.out)
    cases b with
    | false =>
      go_wp2_with fail
      all_goals (go_ret2; exact ⟨rfl, HBC.out⟩)
    | true =>
      obtain ⟨h1, h2, h3⟩ := nar_parts HH.out
      obtain ⟨q0, q1, q2, q3⟩ := MK1.out _ HC.out
      have HM := fun W => met_any k h1 W
      clear h1 h2 h3
      go_wp2_with fail
      refine (HM _).mono ?_
      rintro e w9 ⟨bm, L, rfl, hbm, hown, hmet, hb9⟩
      have HOW := Aside0.mk hown
      have HLE := Aside0.mk (metL_perm hmet).length_eq
      have HB9 := Aside0.mk (below_chain HBC.out hb9)
      clear hown hmet hb9 hbm HM
      go_wp2_with (first | (at_len; refine wpList_len_om _ MM rfl _ 55 rfl 3 Try.underlying55 bm L.length L rfl HOW.out ?_) | fail)
      all_goals (go_ret2; exact ⟨by rw [HLE.out]; rfl, HB9.out⟩)
set_option maxRecDepth 100000 in
set_option maxHeartbeats 3200000 in
theorem earliest_b (k : Nat → Int) (s : Sd) (b : Bool) (h : narB k (fn4 s) = b) (w : World) : Calls Try.prog 19 #[A4 k, A4 (fn4 s)] w fun e w' => e = .returned (.tuple #[.int .i64 (if b = true then (getA (metL k) s).getD 0 else 0), .bool (if b = true then (getA (metL k) s).isSome else false)]) ∧ Below w.heap.size w w' := by
  have HH := Aside0.mk h
  clear h
  go_enter Try.func19, Try.ntmps19
  go_wp2_with fail
  refine (nar_any k (fn4 s) b HH.out _).mono ?_
  rintro e w1 ⟨rfl, hb⟩
  have HK1 := Aside0.mk (blk_below (blk_alloc (heap_alloc_new w (.cells #[.int .i64 (k 0), .int .i64 (k 1), .int .i64 (k 2), .int .i64 (k 3)] 27 (0, 0))) (.cells #[.int .i64 (fn4 s 0), .int .i64 (fn4 s 1), .int .i64 (fn4 s 2), .int .i64 (fn4 s 3)] 22 (0, 0))) hb)
  have HS1 := Aside0.mk (show w1.heap[w.heap.size + 1]? = some (.cells #[.int .i64 (fn4 s 0), .int .i64 (fn4 s 1), .int .i64 (fn4 s 2), .int .i64 (fn4 s 3)] 22 (0, 0)) by
    have := blk_below (heap_alloc_new (w.alloc (.cells #[.int .i64 (k 0), .int .i64 (k 1), .int .i64 (k 2), .int .i64 (k 3)] 27 (0, 0))) (.cells #[.int .i64 (fn4 s 0), .int .i64 (fn4 s 1), .int .i64 (fn4 s 2), .int .i64 (fn4 s 3)] 22 (0, 0))) hb
    simpa using this)
  have HB1 := Aside0.mk (show Below w.heap.size w w1 from below_chain (below_alloc (below_alloc (Below.refl _ _) _) _) hb)
  clear hb
  cases b with
  | false =>
    go_wp2_with fail
    all_goals (go_ret2; exact ⟨rfl, HB1.out⟩)
  | true =>
    obtain ⟨h1, h2, h3⟩ := nar_parts HH.out
    have HG := Aside0.mk (sand_good (sand_of h1 h2))
    have HM := fun W => met_any k h1 W
    clear h1 h2 h3
    have MK1 := Aside0.mk (show ∀ W' : World, Below w1.heap.size w1 W' → W'.cell? ⟨w.heap.size, 0, none⟩ = some (.int .i64 (k 0)) ∧ W'.cell? ⟨w.heap.size, 1, none⟩ = some (.int .i64 (k 1)) ∧ W'.cell? ⟨w.heap.size, 2, none⟩ = some (.int .i64 (k 2)) ∧ W'.cell? ⟨w.heap.size, 3, none⟩ = some (.int .i64 (k 3)) ∧ W'.cell? ⟨w.heap.size + 1, 0, none⟩ = some (.int .i64 (fn4 s 0)) ∧ W'.cell? ⟨w.heap.size + 1, 1, none⟩ = some (.int .i64 (fn4 s 1)) ∧ W'.cell? ⟨w.heap.size + 1, 2, none⟩ = some (.int .i64 (fn4 s 2)) ∧ W'.cell? ⟨w.heap.size + 1, 3, none⟩ = some (.int .i64 (fn4 s 3)) from fun W' hb =>
      have e := blk_below HK1.out hb
      have e2 := blk_below HS1.out hb
      ⟨(blk_cell e 0).trans rfl, (blk_cell e 1).trans rfl, (blk_cell e 2).trans rfl, (blk_cell e 3).trans rfl, (blk_cell e2 0).trans rfl, (blk_cell e2 1).trans rfl, (blk_cell e2 2).trans rfl, (blk_cell e2 3).trans rfl⟩)
    go_wp2_with fail
    go_cut [6, 7] (fun v6 v7 wx => v6 = .int .i64 ((getA (metL k) s).getD 0) ∧ v7 = .bool (getA (metL k) s).isSome ∧ Aside0 (Below w1.heap.size w1 wx))
    case first =>
      go_region_held3 (fun w' => w'.cell? ⟨w.heap.size, 0, none⟩ = some (.int .i64 (k 0)) ∧ w'.cell? ⟨w.heap.size, 1, none⟩ = some (.int .i64 (k 1)) ∧ w'.cell? ⟨w.heap.size, 2, none⟩ = some (.int .i64 (k 2)) ∧ w'.cell? ⟨w.heap.size, 3, none⟩ = some (.int .i64 (k 3)) ∧ w'.cell? ⟨w.heap.size + 1, 0, none⟩ = some (.int .i64 (fn4 s 0)) ∧ w'.cell? ⟨w.heap.size + 1, 1, none⟩ = some (.int .i64 (fn4 s 1)) ∧ w'.cell? ⟨w.heap.size + 1, 2, none⟩ = some (.int .i64 (fn4 s 2)) ∧ w'.cell? ⟨w.heap.size + 1, 3, none⟩ = some (.int .i64 (fn4 s 3)))
        (first | (refine MK1.out _ ?_; ((repeat first | (with_reducible assumption) | (with_reducible exact Below.refl _ _) | ((with_reducible refine bl_alloc _ ?_ ?_); focus (first | (simp; done) | (simp; omega) | omega | (exact below_size (by assumption)))) | (with_reducible refine Below.drew ?_) | (with_reducible refine bl_drewN _ ?_)); done)))
        (first
          | (go_at_call 48; refine (HM _).mono ?_; rintro e w9 ⟨bm, L, rfl, hbm, hown, hmet, hb9⟩; have q9 : Below w1.heap.size w1 w9 := below_chain (by ((repeat first | (with_reducible assumption) | (with_reducible exact Below.refl _ _) | ((with_reducible refine bl_alloc _ ?_ ?_); focus (first | (simp; done) | (simp; omega) | omega | (exact below_size (by assumption)))) | (with_reducible refine Below.drew ?_) | (with_reducible refine bl_drewN _ ?_)); done)) hb9; have hlk := own_look hown Try.underlying55 (zeroI _) HG.out; have hget := getA_perm (metL_perm hmet) hmet.nd s; rw [hget] at hlk; have hlk2 : (Instr.lookup 55 (.map (some bm)) (.agg #[.int .i64 (fn4 s 0), .int .i64 (fn4 s 1), .int .i64 (fn4 s 2), .int .i64 (fn4 s 3)]) true).run Try.prog w9 = .ok (.tuple #[.int .i64 ((getA (metL k) s).getD 0), .bool (getA (metL k) s).isSome]) w9 := hlk; clear hlk hget))
      all_goals
        go_wp2_with fail
        go_meet
        exact ⟨rfl, rfl, ⟨q9⟩⟩
    case rest =>
      obtain ⟨rfl, rfl, HC⟩ := hcut
      have HBC := Aside0.mk (below_chain HB1.out HC.out)
      go_wp2_with fail
      all_goals (go_ret2; exact ⟨rfl, HBC.out⟩)
theorem nar_split (k s : Nat → Int) : narB k s = ((isKitB k && decide (prodOf k ≤ 3000)) && (isSandB k s && isKitB k)) := by
  unfold narB
  cases isKitB k <;> cases isSandB k s <;> cases decide (prodOf k ≤ 3000) <;> rfl
set_option maxRecDepth 100000 in
set_option maxHeartbeats 3200000 in
theorem earliestS_b (k : Nat → Int) (s : Sd) (b1 b2 : Bool) (h1 : (isKitB k && decide (prodOf k ≤ 3000)) = b1) (h2 : (isSandB k (fn4 s) && isKitB k) = b2) (w : World) : Calls Try.prog 17 #[A4 k, A4 (fn4 s)] w fun e w' => e = .returned (.tuple #[.int .i64 (if (b1 && b2) = true then (getA (metL k) s).getD 0 else 0), .bool (if (b1 && b2) = true then (getA (metL k) s).isSome else false)]) ∧ Below w.heap.size w w' := by
  have H1 := Aside0.mk h1
  have H2 := Aside0.mk h2
  clear h1 h2
  go_enter Try.func17, Try.ntmps17
  go_wp2_with fail
  have hc1 := l4Narrow_any k
  rw [H1.out] at hc1
  refine (hc1 _).mono ?_
  rintro e w1 ⟨rfl, hb⟩
  have HK1 := Aside0.mk (blk_below (blk_alloc (heap_alloc_new w (.cells #[.int .i64 (k 0), .int .i64 (k 1), .int .i64 (k 2), .int .i64 (k 3)] 27 (0, 0))) (.cells #[.int .i64 (fn4 s 0), .int .i64 (fn4 s 1), .int .i64 (fn4 s 2), .int .i64 (fn4 s 3)] 22 (0, 0))) hb)
  have HS1 := Aside0.mk (show w1.heap[w.heap.size + 1]? = some (.cells #[.int .i64 (fn4 s 0), .int .i64 (fn4 s 1), .int .i64 (fn4 s 2), .int .i64 (fn4 s 3)] 22 (0, 0)) by
    have := blk_below (heap_alloc_new (w.alloc (.cells #[.int .i64 (k 0), .int .i64 (k 1), .int .i64 (k 2), .int .i64 (k 3)] 27 (0, 0))) (.cells #[.int .i64 (fn4 s 0), .int .i64 (fn4 s 1), .int .i64 (fn4 s 2), .int .i64 (fn4 s 3)] 22 (0, 0))) hb
    simpa using this)
  have HB1 := Aside0.mk (show Below w.heap.size w w1 from below_chain (below_alloc (below_alloc (Below.refl _ _) _) _) hb)
  clear hb hc1
  cases b1 with
  | false =>
    go_wp2_with fail
    all_goals (go_ret2; exact ⟨rfl, HB1.out⟩)
  | true =>
    have MK0 := Aside0.mk (show ∀ W W' : World, W.heap[w.heap.size]? = some (.cells #[.int .i64 (k 0), .int .i64 (k 1), .int .i64 (k 2), .int .i64 (k 3)] 27 (0, 0)) → W.heap[w.heap.size + 1]? = some (.cells #[.int .i64 (fn4 s 0), .int .i64 (fn4 s 1), .int .i64 (fn4 s 2), .int .i64 (fn4 s 3)] 22 (0, 0)) → Below W.heap.size W W' → W'.cell? ⟨w.heap.size, 0, none⟩ = some (.int .i64 (k 0)) ∧ W'.cell? ⟨w.heap.size, 1, none⟩ = some (.int .i64 (k 1)) ∧ W'.cell? ⟨w.heap.size, 2, none⟩ = some (.int .i64 (k 2)) ∧ W'.cell? ⟨w.heap.size, 3, none⟩ = some (.int .i64 (k 3)) ∧ W'.cell? ⟨w.heap.size + 1, 0, none⟩ = some (.int .i64 (fn4 s 0)) ∧ W'.cell? ⟨w.heap.size + 1, 1, none⟩ = some (.int .i64 (fn4 s 1)) ∧ W'.cell? ⟨w.heap.size + 1, 2, none⟩ = some (.int .i64 (fn4 s 2)) ∧ W'.cell? ⟨w.heap.size + 1, 3, none⟩ = some (.int .i64 (fn4 s 3)) from fun W W' h1 h2 hb =>
      have e := blk_below h1 hb
      have e2 := blk_below h2 hb
      ⟨(blk_cell e 0).trans rfl, (blk_cell e 1).trans rfl, (blk_cell e 2).trans rfl, (blk_cell e 3).trans rfl, (blk_cell e2 0).trans rfl, (blk_cell e2 1).trans rfl, (blk_cell e2 2).trans rfl, (blk_cell e2 3).trans rfl⟩)
    obtain ⟨q0, q1, q2, q3, r0, r1, r2, r3⟩ := MK0.out w1 w1 HK1.out HS1.out (Below.refl _ _)
    go_wp2_with fail
    have hc2 := l2Sand_any k (fn4 s)
    rw [H2.out] at hc2
    refine (hc2 _).mono ?_
    rintro e w2 ⟨rfl, hb⟩
    have HK2 := Aside0.mk (blk_below HK1.out hb)
    have HS2 := Aside0.mk (blk_below HS1.out hb)
    have HB2 := Aside0.mk (below_chain HB1.out hb)
    clear hb hc2 q0 q1 q2 q3 r0 r1 r2 r3
    cases b2 with
    | false =>
      go_wp2_with fail
      all_goals (go_ret2; exact ⟨rfl, HB2.out⟩)
    | true =>
      have hnar : narB k (fn4 s) = true := by rw [nar_split, H1.out, H2.out]; rfl
      obtain ⟨n1, n2, n3⟩ := nar_parts hnar
      have hsd := sand_of n1 n2
      have hk := kit_bounds n1
      have HM := fun W => earl_any k n1 n3 W
      have hb := (idn_is hsd).2
      have hlen := earl_len k (by have := (prod_is hk).2; omega)
      have i0 : 0 ≤ idOf k (fn4 s) := hb.1
      have i1 : idOf k (fn4 s) < ((earlL k).length : Int) := by rw [hlen]; exact hb.2
      have HRD := Aside0.mk (show rd (earlL k) (idOf k (fn4 s)) = (getA (metL k) s).getD (-1) from by
        have := rd_earl (k := k) hb.1 hb.2
        rw [sandX_idn hk hsd] at this
        exact this)
      have HPOS := Aside0.mk (show ∀ t, getA (metL k) s = some t → 0 ≤ t from fun t ht => (((metL_nd k).2 _ (getA_some ht)).sand hk).2)
      have hl1 : 0 < (earlL k).length := by omega
      clear n1 n2 n3 hsd hk hb hlen hnar
      have MK1 := Aside0.mk (show ∀ W' : World, Below w2.heap.size w2 W' → W'.cell? ⟨w.heap.size, 0, none⟩ = some (.int .i64 (k 0)) ∧ W'.cell? ⟨w.heap.size, 1, none⟩ = some (.int .i64 (k 1)) ∧ W'.cell? ⟨w.heap.size, 2, none⟩ = some (.int .i64 (k 2)) ∧ W'.cell? ⟨w.heap.size, 3, none⟩ = some (.int .i64 (k 3)) ∧ W'.cell? ⟨w.heap.size + 1, 0, none⟩ = some (.int .i64 (fn4 s 0)) ∧ W'.cell? ⟨w.heap.size + 1, 1, none⟩ = some (.int .i64 (fn4 s 1)) ∧ W'.cell? ⟨w.heap.size + 1, 2, none⟩ = some (.int .i64 (fn4 s 2)) ∧ W'.cell? ⟨w.heap.size + 1, 3, none⟩ = some (.int .i64 (fn4 s 3)) from fun W' hb => MK0.out w2 W' HK2.out HS2.out hb)
      go_wp2_with fail
      go_cut [6] (fun v6 wx => v6 = .int .i64 ((getA (metL k) s).getD (-1)) ∧ Aside0 (Below w2.heap.size w2 wx))
      case first =>
        obtain ⟨k0, k1, k2, k3, s0, s1, s2, s3⟩ := MK1.out w2 (Below.refl _ _)
        go_region_law
          (first
            | (go_simp; go_at_call 45; refine (HM _).mono ?_; rintro e w9 ⟨v0, rfl, hR, _, hb9⟩; have q9 : Below w2.heap.size w2 w9 := below_chain (by ((repeat first | (with_reducible assumption) | (with_reducible exact Below.refl _ _) | ((with_reducible refine bl_alloc _ ?_ ?_); focus (first | (simp; done) | (simp; omega) | omega | (exact below_size (by assumption)))) | (with_reducible refine Below.drew ?_) | (with_reducible refine bl_drewN _ ?_)); done)) hb9; obtain ⟨g, cp, rfl, _, _, _⟩ := Kd.R_form hR hl1; have c9 := (Kd.R_celln (0 : Int) hR (idOf k (fn4 s)) i0 i1).1; obtain ⟨k0, k1, k2, k3, s0, s1, s2, s3⟩ := MK1.out w9 q9; rw [show rdOf (0 : Int) (earlL k) (idOf k (fn4 s)) = (getA (metL k) s).getD (-1) from HRD.out] at c9)
            | (go_simp; go_at_call 50; refine (l4Id_any k (fn4 s) _).mono ?_; rintro e w8 ⟨rfl, hb8⟩; have q8 : Below w2.heap.size w2 w8 := below_chain (by ((repeat first | (with_reducible assumption) | (with_reducible exact Below.refl _ _) | ((with_reducible refine bl_alloc _ ?_ ?_); focus (first | (simp; done) | (simp; omega) | omega | (exact below_size (by assumption)))) | (with_reducible refine Below.drew ?_) | (with_reducible refine bl_drewN _ ?_)); done)) hb8; obtain ⟨k0, k1, k2, k3, s0, s1, s2, s3⟩ := MK1.out w8 q8; try (have c8 := keep_below hb8 c9)))
        all_goals
          go_wp2_with fail
          go_meet
          exact ⟨rfl, ⟨by first | exact q8 | exact q9⟩⟩
      case rest =>
        obtain ⟨rfl, HC⟩ := hcut
        have HBC := Aside0.mk (below_chain HB2.out HC.out)
        have HMX := fun W => l1Most_any ((getA (metL k) s).getD (-1)) 0 W
        go_wp2_with fail
        refine (HMX _).mono ?_
        rintro e w10 ⟨rfl, rfl⟩
        have HFA := Aside0.mk (show max ((getA (metL k) s).getD (-1)) 0 = (getA (metL k) s).getD 0 ∧ decide (0 ≤ (getA (metL k) s).getD (-1)) = (getA (metL k) s).isSome from by
          cases g : getA (metL k) s with
          | none => exact ⟨rfl, rfl⟩
          | some t =>
            have := HPOS.out t g
            exact ⟨by show max t 0 = t; omega, decide_eq_true this⟩)
        go_wp2_with fail
        all_goals (go_ret2; exact ⟨by first | (rw [HFA.out.1, HFA.out.2]; rfl) | trace_state, HBC.out⟩)
theorem xEarliestS_b (k : Nat → Int) (s : Sd) (b : Bool) (h : narB k (fn4 s) = b) (w : World) : Calls Try.prog 17 #[A4 k, A4 (fn4 s)] w fun e w' => e = .returned (.tuple #[.int .i64 (if b = true then (getA (metL k) s).getD 0 else 0), .bool (if b = true then (getA (metL k) s).isSome else false)]) ∧ Below w.heap.size w w' := by
  rw [nar_split] at h
  have := earliestS_b k s _ _ rfl rfl w
  rw [h] at this
  exact this
noncomputable def xCountMet.f (a0_0 a0_1 a0_2 a0_3 : Int) : Option (Int × Bool) := some (if narB (v4 a0_0 a0_1 a0_2 a0_3) (fun _ => 0) = true then ((metL (v4 a0_0 a0_1 a0_2 a0_3)).length : Int) else 0, narB (v4 a0_0 a0_1 a0_2 a0_3) (fun _ => 0))
theorem xCountMet.calls (a0_0 a0_1 a0_2 a0_3 : Int) (r1 : Int) (r2 : Bool) (w : World) (h : xCountMet.f a0_0 a0_1 a0_2 a0_3 = some (r1, r2)) : Calls Try.prog 16 #[.agg #[.int .i64 a0_0, .int .i64 a0_1, .int .i64 a0_2, .int .i64 a0_3]] w fun e w' => e = .returned (.tuple #[.int .i64 r1, .bool r2]) ∧ Below w.heap.size w w' := by
  unfold xCountMet.f at h
  simp only [Option.some.injEq, Prod.mk.injEq] at h
  obtain ⟨rfl, rfl⟩ := h
  exact countMet_b (v4 a0_0 a0_1 a0_2 a0_3) _ rfl w
noncomputable def xEarliest.f (a0_0 a0_1 a0_2 a0_3 a1_0 a1_1 a1_2 a1_3 : Int) : Option (Int × Bool) := some (if narB (v4 a0_0 a0_1 a0_2 a0_3) (fn4 (a1_0, a1_1, a1_2, a1_3)) = true then (getA (metL (v4 a0_0 a0_1 a0_2 a0_3)) (a1_0, a1_1, a1_2, a1_3)).getD 0 else 0, if narB (v4 a0_0 a0_1 a0_2 a0_3) (fn4 (a1_0, a1_1, a1_2, a1_3)) = true then (getA (metL (v4 a0_0 a0_1 a0_2 a0_3)) (a1_0, a1_1, a1_2, a1_3)).isSome else false)
theorem xEarliest.calls (a0_0 a0_1 a0_2 a0_3 a1_0 a1_1 a1_2 a1_3 : Int) (r1 : Int) (r2 : Bool) (w : World) (h : xEarliest.f a0_0 a0_1 a0_2 a0_3 a1_0 a1_1 a1_2 a1_3 = some (r1, r2)) : Calls Try.prog 19 #[.agg #[.int .i64 a0_0, .int .i64 a0_1, .int .i64 a0_2, .int .i64 a0_3], .agg #[.int .i64 a1_0, .int .i64 a1_1, .int .i64 a1_2, .int .i64 a1_3]] w fun e w' => e = .returned (.tuple #[.int .i64 r1, .bool r2]) ∧ Below w.heap.size w w' := by
  unfold xEarliest.f at h
  simp only [Option.some.injEq, Prod.mk.injEq] at h
  obtain ⟨rfl, rfl⟩ := h
  exact earliest_b (v4 a0_0 a0_1 a0_2 a0_3) (a1_0, a1_1, a1_2, a1_3) _ rfl w
noncomputable def xEarliestS.f (a0_0 a0_1 a0_2 a0_3 a1_0 a1_1 a1_2 a1_3 : Int) : Option (Int × Bool) := xEarliest.f a0_0 a0_1 a0_2 a0_3 a1_0 a1_1 a1_2 a1_3
theorem xEarliestS.calls (a0_0 a0_1 a0_2 a0_3 a1_0 a1_1 a1_2 a1_3 : Int) (r1 : Int) (r2 : Bool) (w : World) (h : xEarliestS.f a0_0 a0_1 a0_2 a0_3 a1_0 a1_1 a1_2 a1_3 = some (r1, r2)) : Calls Try.prog 17 #[.agg #[.int .i64 a0_0, .int .i64 a0_1, .int .i64 a0_2, .int .i64 a0_3], .agg #[.int .i64 a1_0, .int .i64 a1_1, .int .i64 a1_2, .int .i64 a1_3]] w fun e w' => e = .returned (.tuple #[.int .i64 r1, .bool r2]) ∧ Below w.heap.size w w' := by
  unfold xEarliestS.f xEarliest.f at h
  simp only [Option.some.injEq, Prod.mk.injEq] at h
  obtain ⟨rfl, rfl⟩ := h
  exact xEarliestS_b (v4 a0_0 a0_1 a0_2 a0_3) (a1_0, a1_1, a1_2, a1_3) _ rfl w
noncomputable def xEarl.f (a0_0 a0_1 a0_2 a0_3 : Int) : Option (List Int) := if isKitB (v4 a0_0 a0_1 a0_2 a0_3) = true ∧ prodT (v4 a0_0 a0_1 a0_2 a0_3) ≤ 3000 then some (earlL (v4 a0_0 a0_1 a0_2 a0_3)) else none
theorem xEarl.calls (a0_0 a0_1 a0_2 a0_3 : Int) (r : List Int) (w : World) (h : xEarl.f a0_0 a0_1 a0_2 a0_3 = some r) : Calls Try.prog 45 #[.agg #[.int .i64 a0_0, .int .i64 a0_1, .int .i64 a0_2, .int .i64 a0_3]] w fun e w' => ∃ v0_ : Value, e = .returned v0_ ∧ Kd.R (Kd.int .i64) 3 w' w.heap.size (fun _ => True) v0_ r ∧ Below w.heap.size w w' := by
  unfold xEarl.f at h
  split at h
  · rename_i q
    obtain rfl := Option.some.inj h
    exact (earl_any (v4 a0_0 a0_1 a0_2 a0_3) q.1 q.2 w).mono fun e w' ⟨v, h1, h2, _, h3⟩ => ⟨v, h1, h2, h3⟩
  · cases h
end Go.Proofs.Ytlhodfjdmafapaa
