/- Contract: the sands that are met, with their least times. No statement of the seat is proved here. -/
import Derived.Test.YtlhodfjdmafapaaSets
import Derived.Test.YtlhodfjdmafapaaQueue
import Derived.Test.YtlhodfjdmafapaaPMet
namespace Go.Proofs.Ytlhodfjdmafapaa
open Go.RowKit Go.Maps Go.Proofs.YtlhodfjdmafapaaW.PrintWords Go.Proofs.YtlhodfjdmafapaaW.PrintLast Go.Proofs.YtlhodfjdmafapaaW.PrintMore
set_option linter.unusedVariables false
set_option linter.unusedSimpArgs false
def MM : MapKd Try.prog 22 Sd Int := mk4 (Value.int .i64) (fun a b e => by injection e)
theorem zeroI (w : World) : (zeroValue 3).run Try.prog w = .ok (.int .i64 0) w := by kernel_rfl
theorem zeroRows (w : World) : (zeroValue 43).run Try.prog w = .ok (.slice none 0 0) w := by kernel_rfl
theorem info4q : (Try.prog.info? 22).map (fun i => (i.zero, i.size, i.bytes)) = some (some (.agg #[(.int .i64 0), (.int .i64 0), (.int .i64 0), (.int .i64 0)]), 4, 32) := by kernel_rfl
theorem R_one (W : World) (base : Nat) (ok : Nat → Prop) (s : Sd) (hb : base ≤ W.heap.size) (hok : ok W.heap.size) : k4.R 22 (W.alloc (.cells #[.int .i64 s.1, .int .i64 s.2.1, .int .i64 s.2.2.1, .int .i64 s.2.2.2] 22)) base ok (.slice (some ⟨W.heap.size, 0, none⟩) 1 1) [s] := by
  refine ⟨fun j hj => ?_, [.int .i64 s.1, .int .i64 s.2.1, .int .i64 s.2.2.1, .int .i64 s.2.2.2], ?_, rfl, fun j p hp => ?_⟩
  · have : W.heap.size = j := by simpa [Value.ownBlock] using hj
    rw [← this]; exact hok
  · exact World.ownsRow_lit (base := base) (e := 22) (size := 4) W #[.int .i64 s.1, .int .i64 s.2.1, .int .i64 s.2.2.1, .int .i64 s.2.2.2] 1 hb (by decide) rfl
  · cases j with
    | zero =>
      simp only [List.getElem?_cons_zero, Option.some.injEq] at hp
      subst hp
      exact k4_mkM _ _ _ _
    | succ j => simp at hp
theorem QL.start (w : World) (b base n : Nat) (ok : Nat → Prop) {v : Value} {s : Sd} {L : List (Int × Value)} (h : mkT.own w b n L) (hL : L = [(0, v)]) (hr : k4.R 22 w base ok v [s]) : QL mkT k4 22 w b base ok n (updQ (fun _ => []) 0 [s]) L := by
  subst hL
  refine ⟨h, fun p hp => ?_, fun x hx => ?_, List.pairwise_singleton _ _⟩
  · rw [List.mem_singleton.1 hp]
    show k4.R _ _ _ _ v (updQ _ 0 _ 0)
    rw [updQ_same]; exact hr
  · rw [getA_cons] at hx
    split at hx
    · cases hx
    · rename_i c
      exact updQ_ne _ _ (fun e => c (by simp [e]))
/-- what met leaves -/
def MetPost (k : Nat → Int) (w : World) (e : Ending) (w' : World) : Prop :=
  ∃ (b : Nat) (L : List (Sd × Int)), e = .returned (.map (some b)) ∧ w.heap.size ≤ b ∧ MM.own w' b L.length L ∧ Met k L ∧ Below w.heap.size w w'
/-- what all loops keep -/
structure MBase (k : Nat → Int) (w : World) (n1 : Nat) (sv : Value) (M : List (Sd × Int)) (wr : World) : Prop where
  out : MM.own wr (w.heap.size + 1) M.length M
  kit : wr.heap[w.heap.size]? = some (.cells #[.int .i64 (k 0), .int .i64 (k 1), .int .i64 (k 2), .int .i64 (k 3)] 27 (0, 0))
  sets : (Kd.int .i64).R 3 wr n1 (fun _ => True) sv (setsL k)
  below : Below w.heap.size w wr
section
variable {k : Nat → Int} {w wr w' : World} {n1 : Nat} {sv : Value} {M : List (Sd × Int)}
theorem MBase.step (h : MBase k w n1 sv M wr) (hb : Below wr.heap.size wr w') : MBase k w n1 sv M w' :=
  ⟨MapKd.own_below h.out hb, blk_below h.kit hb, Kd.R_below h.sets hb, below_chain h.below hb⟩
theorem MBase.app (h : MBase k w n1 sv M wr) {base : Nat} {ok : Nat → Prop} {u : Value} {xs : List Sd} (hR : k4.R 22 wr base ok u xs) (hw : w.heap.size ≤ base) (hg : wr.grownBy w' u.ownBlock) : MBase k w n1 sv M w' := by
  refine ⟨MapKd.own_kept h.out hg (fun e => ?_), blk_grown h.kit hg (Kd.R_ne hR h.kit (by decide)), Kd.R_over' h.sets (Kd.R_typed hR) (by decide) hg, h.below.grown hg h.below.size (fun q hq => Nat.le_trans hw (Kd.R_base hR q hq))⟩
  obtain ⟨cells, hc⟩ := Kd.R_typed hR _ e.symm
  obtain ⟨es, c, hm⟩ := MapKd.own_is h.out
  rw [hc] at hm; cases hm
theorem MBase.mp (h : MBase k w n1 sv M wr) {g : Nat} (hg : wr.grownBy w' (some g)) (hm : ∃ es c, wr.heap[g]? = some (.map es c)) (hne : w.heap.size + 1 < g) : MBase k w n1 sv M w' := by
  obtain ⟨es, c, hm⟩ := hm
  refine ⟨MapKd.own_kept h.out hg (fun e => by have := Option.some.inj e; omega), blk_grown h.kit hg (fun e => by have := Option.some.inj e; omega), Kd.R_grown2 h.sets rfl hg (fun q hq e => ?_), h.below.grown hg h.below.size (fun q hq => by have := Option.some.inj hq; omega)⟩
  have e1 : q = g := (Option.some.inj hq).symm
  obtain ⟨cells, hc⟩ := Kd.R_typed h.sets q e.symm
  rw [e1, hm] at hc; cases hc
theorem MBase.put (h : MBase k w n1 sv M wr) {x : Sd} {t : Int} (ho : MM.own w' (w.heap.size + 1) (M.length + 1) (putA M x t)) (hg : wr.grownBy w' (some (w.heap.size + 1))) : MBase k w n1 sv (putA M x t) w' := by
  obtain ⟨es, c, hm⟩ := MapKd.own_is h.out
  refine ⟨MapKd.own_tight ho, blk_grown h.kit hg (fun e => by have := Option.some.inj e; omega), Kd.R_grown2 h.sets rfl hg (fun q hq e => ?_), h.below.grown hg h.below.size (fun q hq => by have := Option.some.inj hq; omega)⟩
  have e1 : q = w.heap.size + 1 := (Option.some.inj hq).symm
  obtain ⟨cells, hc⟩ := Kd.R_typed h.sets q e.symm
  rw [e1, hm] at hc; cases hc
end
theorem calm_c (w : World) : Calls Try.prog 47 #[] w fun e w' => e = .returned (.agg #[.int .i64 0, .int .i64 0, .int .i64 0, .int .i64 0]) ∧ Below w.heap.size w w' := calm_any w
attribute [local go_sem] max2_int max_two
set_option maxRecDepth 100000 in
set_option maxHeartbeats 4000000 in
theorem met_any (k : Nat → Int) (hk : isKitB k = true) (w : World) : Calls Try.prog 48 #[A4 k] w (MetPost k w) := by
  have HKB := Aside0.mk (kit_bounds hk)
  clear hk
  have hmm := @run_makeMap Try.prog
  go_enter Try.func48, Try.ntmps48
  go_wp2_with fail
  refine (sets_any k _).mono ?_
  rintro e w1 ⟨v0, rfl, hR1, hb1⟩
  have HM0 := Aside0.mk (show MM.own w1 (w.heap.size + 1) 0 [] from by
    have := MapKd.own_below (MapKd.own_made MM (w.alloc (.cells #[.int .i64 (k 0), .int .i64 (k 1), .int .i64 (k 2), .int .i64 (k 3)] 27))) hb1
    simpa only [World.size_alloc] using this)
  have HK1 := Aside0.mk (show w1.heap[w.heap.size]? = some (.cells #[.int .i64 (k 0), .int .i64 (k 1), .int .i64 (k 2), .int .i64 (k 3)] 27 (0, 0)) from blk_below (blk_alloc (heap_alloc_new w _) _) hb1)
  have HB1 := Aside0.mk (show Below w.heap.size w w1 from below_chain (below_alloc (below_alloc (Below.refl _ _) _) _) hb1)
  have HZ1 := Aside0.mk (show w.heap.size + 1 + 1 ≤ w1.heap.size from by have := hb1.size; simpa using this)
  obtain ⟨n1, hn1, hR1⟩ := R_at hR1
  obtain ⟨A0, c0, rfl, hc0, hC0⟩ := Kd.R_reads hR1
  have HN1 := Aside0.mk (show w.heap.size + 1 + 1 = n1 by rw [hn1]; simp)
  have HC1 := Aside0.mk hR1
  clear hR1 hb1 hc0 hC0 hn1
  have hsl := setsL_len k
  go_wp2_with fail
  refine (calm_c _).mono ?_
  rintro e w2 ⟨rfl, hb2⟩
  have HB12 := Aside0.mk (show Below w1.heap.size w1 w2 from below_chain (below_alloc (Below.refl _ _) _) hb2)
  have HT0 := Aside0.mk (show mkT.own w2 w1.heap.size 0 [] from MapKd.own_below (MapKd.own_made mkT w1) hb2)
  have HL2 := Aside0.mk (show w1.heap.size < w2.heap.size from by have := hb2.size; simp only [World.size_alloc] at this; omega)
  clear hb2
  go_wp2_with (first | (refine wpList_insert_om _ mkT rfl _ _ _ 100 rfl 43 Try.underlying100 w1.heap.size 0 [] rfl (MapKd.own_alloc HT0.out _) (by unfold maxLen; omega) 0 _ rfl rfl ⟨by omega, by omega⟩ ?_; intro w3 hown3 hgrow3 hsz3) | fail)
  have HR3 := Aside0.mk (R_one w2 w.heap.size (fun _ => True) calm0 (by have := HL2.out; have := HZ1.out; omega) trivial)
  have HBA := Aside0.mk (show Below w1.heap.size w1 w3 from (below_alloc HB12.out _).grown hgrow3 (by have := HL2.out; simp; omega) (fun q hq => by cases hq; omega))
  have HQ3 := Aside0.mk (show QL mkT k4 22 w3 w1.heap.size w.heap.size (fun _ => True) 1 startQ _ from QL.start w3 _ _ _ _ hown3 rfl (R_only flat4 HR3.out (fun j hj => hgrow3.block j (Kd.R_lt HR3.out j hj) (fun e => by
    have e1 : w2.heap.size = j := by simpa [Value.ownBlock] using hj
    have e2 := Option.some.inj e
    have := HL2.out
    omega))))
  have HM3 := Aside0.mk (show MM.own w3 (w.heap.size + 1) ([] : List (Sd × Int)).length [] from MapKd.own_below HM0.out HBA.out)
  have HK3 := Aside0.mk (blk_below HK1.out HBA.out)
  have HC3 := Aside0.mk (Kd.R_below HC1.out HBA.out)
  have HB3 := Aside0.mk (below_chain HB1.out HBA.out)
  clear hown3 hgrow3 hsz3 HR3 HB12 HT0 HM0 HK1 HC1 HB1 HN1
  clear hR1
  have HW3 := Aside0.mk (show MBase k w n1 (.slice A0 (setsL k).length c0) [] w3 from ⟨HM3.out, HK3.out, HC3.out, HB3.out⟩)
  have HBQ := Aside0.mk (show w.heap.size + 1 < w1.heap.size from by have := HZ1.out; omega)
  clear HM3 HK3 HC3 HB3 HBA HL2 HZ1
  obtain ⟨sv, hsv⟩ : ∃ sv, sv = Value.slice A0 (setsL k).length c0 := ⟨_, rfl⟩
  go_loopw [6, 7] (fun v6 v7 wr => ∃ (T last : Int) (M : List (Sd × Int)) (Q : Int → List Sd) (n : Nat) (L : List (Int × Value)), v6 = .int .i64 T ∧ v7 = .int .i64 last ∧ Aside0 (MInv k M Q T last 0 calm0 []) ∧ Aside0 (n ≤ 1 + 16 * M.length) ∧ Aside0 (MBase k w n1 (.slice A0 (setsL k).length c0) M wr) ∧ Aside0 (QL mkT k4 22 wr w1.heap.size w.heap.size (fun _ => True) n Q L)) (fun v6 _ _ => 27705632 - (intOf v6).toNat)
  case atStart => exact ⟨0, 0, [], startQ, 1, _, rfl, rfl, ⟨MInv.start k⟩, ⟨by simp⟩, HW3, HQ3⟩
  case round =>
    obtain ⟨T, last, M, Q, n, L, rfl, rfl, HI, HN, HW, HQ⟩ := hrel
    obtain ⟨wo, rfl⟩ : ∃ wo : World, wo = wr := ⟨_, rfl⟩
    have hlen := few31 HKB.out HI.out.nd HI.out.reach
    have hT0 : 0 ≤ T := HI.out.t0
    have hl0 : 0 ≤ last := HI.out.l0
    have hlB : last ≤ 27705630 := by have := HI.out.lastB; omega
    clear hlen
    by_cases c : T ≤ last
    · have c1 : decide (T ≤ last) = true := decide_eq_true c
      obtain ⟨v, hv⟩ : ∃ v, (getA L T).getD (.slice none 0 0) = v := ⟨_, rfl⟩
      have hR := HQ.out.at hv
      obtain ⟨A, cp, rfl, _, _⟩ := Kd.R_reads hR
      have HV := Aside0.mk hv
      clear hv hR
      go_wp2_with (first | (at_lookup; refine wpList_lookup_q _ mkT k4 (fun _ => rfl) rfl _ _ 100 rfl 43 22 Try.underlying100 (zeroRows _) w1.heap.size w.heap.size n (fun _ => True) Q L rfl HQ.out T rfl ⟨hT0, by omega⟩ _ HV.out ?_) | fail)
      have HI0 := Aside0.mk (show ((0 : Nat) ≤ (Q T).length) from Nat.zero_le _)
      have hl2 : (Q T).length ≤ 20000000 := by
        have h1 := HI.out.len T
        have h2 := few31 HKB.out HI.out.nd HI.out.reach
        simp only [List.length_nil] at h1
        omega
      go_loopw [34, 7] (fun v34 v7 wr => ∃ (i : Nat) (last : Int) (M : List (Sd × Int)) (Q' : Int → List Sd) (n : Nat) (L : List (Int × Value)), v34 = .int .i64 i ∧ v7 = .int .i64 last ∧ Aside0 (MInv k M Q' T last i calm0 []) ∧ Aside0 (T ≤ last) ∧ Aside0 (n ≤ 1 + 16 * M.length) ∧ Aside0 (MBase k w n1 (.slice A0 (setsL k).length c0) M wr) ∧ Aside0 (QL mkT k4 22 wr w1.heap.size w.heap.size (fun _ => True) n Q' L) ∧ Aside0 ((getA L T).getD (.slice none 0 0) = .slice A (Q T).length cp) ∧ Aside0 (i ≤ (Q T).length)) (fun v34 _ _ => (Q T).length - (intOf v34).toNat)
      case atStart => exact ⟨0, last, M, Q, n, L, rfl, rfl, HI, ⟨c⟩, HN, HW, HQ, HV, HI0⟩
      case round =>
        clear HI HN HW HQ HV HI0 hl0 hlB c c1
        obtain ⟨i, last, M, Q', n, L, rfl, rfl, HI, HTL, HN, HW, HQ, HV, HIL⟩ := hrel
        obtain ⟨wz, rfl⟩ : ∃ wz : World, wz = wr := ⟨_, rfl⟩
        have hlen := few31 HKB.out HI.out.nd HI.out.reach
        have hlB : last ≤ 27705630 := by have := HI.out.lastB; omega
        have hTL := HTL.out
        have hnl : n ≤ 20000000 := by have := HN.out; omega
        clear hlen
        have hR := HQ.out.at HV.out
        obtain ⟨hl0, _, hC⟩ := Kd.R_reads' hR
        have HLEN := Aside0.mk hl0
        have hiL := HIL.out
        clear hR
        by_cases c : i < (Q T).length
        · have c1 : decide (i < (Q T).length) = true := decide_eq_true c
          have c2 : decide ((i : Int) < ((Q T).length : Int)) = true := decide_eq_true (by omega)
          obtain ⟨⟨s0, s1, s2, s3⟩, hs⟩ : ∃ s, (Q' T)[i]? = some s := ⟨_, List.getElem?_eq_getElem (by omega)⟩
          obtain ⟨ad, e1, h0, h1, h2, h3⟩ := at_k4 hC i _ hs
          subst e1
          have HS := Aside0.mk hs
          have HRE := Aside0.mk (HI.out.queue T _ (List.mem_of_getElem? hs))
          have HSD := Aside0.mk (HRE.out.sand HKB.out).1
          have HGS := Aside0.mk (sand_good HSD.out)
          clear hs hC hl0
          cases hg : getA M (s0, s1, s2, s3) with
          | some t0 =>
            have HG := Aside0.mk hg
            clear hg
            go_wp2_with (first | (at_lookup; refine wpList_lookup_ok_some _ MM rfl _ _ 55 rfl 3 Try.underlying55 0 (zeroI _) (w.heap.size + 1) M.length M rfl (MapKd.own_below HW.out.out (by repeat (first | exact Below.refl _ _ | apply below_alloc | apply pw_below_drewN))) (s0, s1, s2, s3) rfl HGS.out t0 HG.out (.int .i64 t0) rfl ?_) | fail)
            have BA := below_alloc (Below.refl wz.heap.size wz) (.cells #[.int .i64 s0, .int .i64 s1, .int .i64 s2, .int .i64 s3] 22 (0, 0))
            exact ⟨⟨i + 1, last, M, Q', n, L, by go_num, rfl, ⟨HI.out.skip HS.out (getA_some HG.out)⟩, HTL, HN, ⟨HW.out.step BA⟩, ⟨HQ.out.below BA⟩, HV, ⟨by omega⟩⟩, by simp only [intOf]; omega⟩
          | none =>
            have HG := Aside0.mk hg
            clear hg
            have HML := Aside0.mk (show M.length < maxLen from by have := few31 HKB.out HI.out.nd HI.out.reach; unfold maxLen; omega)
            go_wp2_with (first | (at_lookup; refine wpList_lookup_ok_none _ MM rfl _ _ 55 rfl 3 Try.underlying55 0 (zeroI _) (w.heap.size + 1) M.length M rfl (MapKd.own_below HW.out.out (by repeat (first | exact Below.refl _ _ | apply below_alloc | apply pw_below_drewN))) (s0, s1, s2, s3) rfl HGS.out HG.out (.int .i64 0) rfl ?_) | (at_mapUpdate; refine wpList_update_om _ MM rfl _ _ _ 55 rfl 3 Try.underlying55 (w.heap.size + 1) M.length M rfl (MapKd.own_below HW.out.out (by repeat (first | exact Below.refl _ _ | apply below_alloc | apply pw_below_drewN))) HML.out (s0, s1, s2, s3) T rfl rfl HGS.out ?_; intro w5 hown5 hgrow5 hsz5) | fail)
            have BA := below_alloc (Below.refl wz.heap.size wz) (.cells #[.int .i64 s0, .int .i64 s1, .int .i64 s2, .int .i64 s3] 22 (0, 0))
            have HW5 := Aside0.mk ((HW.out.step BA).put hown5 hgrow5)
            have HQ5 := Aside0.mk ((((HQ.out.fence wz.heap.size (Nat.le_refl _)).below BA)).map hgrow5 (by have := HBQ.out; omega) (MapKd.own_is (HW.out.step BA).out))
            have HX5 := Aside0.mk (blk_grown (heap_alloc_new wz (.cells #[.int .i64 s0, .int .i64 s1, .int .i64 s2, .int .i64 s3] 22 (0, 0))) hgrow5 (fun e => by have := MapKd.own_lt HW.out.out; have := Option.some.inj e; omega))
            have HI5 := Aside0.mk (HI.out.settle hTL HS.out HG.out)
            have HN5 := Aside0.mk (show n + ((setsL k).length - 0) ≤ 1 + 16 * (putA M (s0, s1, s2, s3) T).length from by
              rw [putA_absent HG.out, List.length_cons]
              have := HN.out
              omega)
            have hzb : w.heap.size < wz.heap.size := by have := MapKd.own_lt HW.out.out; omega
            have HZB := Aside0.mk hzb
            have HZQ := Aside0.mk (show w1.heap.size < wz.heap.size from HQ.out.lt)
            clear hown5 hgrow5 hsz5 BA HW HQ HI HN HG h0 h1 h2 h3
            obtain ⟨M1, hM1⟩ : ∃ M1, M1 = putA M (s0, s1, s2, s3) T := ⟨_, rfl⟩
            rw [← hM1] at HW5 HI5 HN5
            have HSZ := Aside0.mk (show ((setsL k).drop 0 = setsL k) from List.drop_zero)
            go_loopw [50, 7] (fun v50 v7 wr => ∃ (j : Nat) (last : Int) (Q' : Int → List Sd) (n : Nat) (L : List (Int × Value)), v50 = .int .i64 j ∧ v7 = .int .i64 last ∧ Aside0 (MInv k M1 Q' T last (i + 1) (s0, s1, s2, s3) ((setsL k).drop j)) ∧ Aside0 (T ≤ last) ∧ Aside0 (n + ((setsL k).length - j) ≤ 1 + 16 * M1.length) ∧ Aside0 (MBase k w n1 (.slice A0 (setsL k).length c0) M1 wr) ∧ Aside0 (QL mkT k4 22 wr w1.heap.size w.heap.size (fun b => True ∧ b ≠ wz.heap.size) n Q' L) ∧ Aside0 ((getA L T).getD (.slice none 0 0) = .slice (some ad) (Q T).length cp) ∧ Aside0 (wr.heap[wz.heap.size]? = some (.cells #[.int .i64 s0, .int .i64 s1, .int .i64 s2, .int .i64 s3] 22 (0, 0))) ∧ Aside0 (j ≤ (setsL k).length)) (fun v50 _ _ => (setsL k).length - (intOf v50).toNat)
            case atStart => exact ⟨0, last, Q', n, L, rfl, rfl, ⟨by rw [HSZ.out]; exact HI5.out⟩, HTL, HN5, HW5, HQ5, HV, HX5, ⟨Nat.zero_le _⟩⟩
            case round =>
              clear HI5 HTL HN5 HW5 HQ5 HV HX5 hnl hlB hTL
              obtain ⟨j, last, Q', n, L, rfl, rfl, HI, HTL, HN, HW, HQ, HV, HX, HJ⟩ := hrel
              obtain ⟨wy, rfl⟩ : ∃ wy : World, wy = wr := ⟨_, rfl⟩
              have hjl := HJ.out
              by_cases cj : j < (setsL k).length
              · have cj0 : decide (j < (setsL k).length) = true := decide_eq_true cj
                have cj1 : decide ((j : Int) < ((setsL k).length : Int)) = true := decide_eq_true (by omega)
                obtain ⟨set, hset⟩ : ∃ set, (setsL k)[j]? = some set := ⟨_, List.getElem?_eq_getElem cj⟩
                have hmem := setsL_mem (List.mem_of_getElem? hset)
                have hdrop : (setsL k).drop j = set :: (setsL k).drop (j + 1) := by
                  rw [List.drop_eq_getElem_cons cj]
                  congr 1
                  rw [List.getElem?_eq_getElem cj] at hset
                  exact Option.some.inj hset
                have HI' := Aside0.mk (hdrop ▸ HI.out : MInv k M1 Q' T last (i + 1) (s0, s1, s2, s3) (set :: (setsL k).drop (j + 1)))
                obtain ⟨at1, e1, ht1⟩ := Kd.at_int (Kd.R_reads' HW.out.sets).2.2 (j : Int) (by omega) (by omega)
                cases e1
                rw [show rd (setsL k) (j : Int) = set by simp [rd, List.getD_eq_getElem?_getD, hset], show ((j : Int)).toNat = j from Int.toNat_natCast j] at ht1
                have hd := HSD.out.stepD set
                have hsn := HSD.out.step set
                have hgd := sand_good (sand_tup hsn)
                obtain ⟨d, hdd⟩ : ∃ d, stepD k (fn4 (s0, s1, s2, s3)) set = d := ⟨_, rfl⟩
                obtain ⟨t0, ht0⟩ : ∃ t, stepS k (fn4 (s0, s1, s2, s3)) set 0 = t := ⟨_, rfl⟩
                obtain ⟨t1, ht1'⟩ : ∃ t, stepS k (fn4 (s0, s1, s2, s3)) set 1 = t := ⟨_, rfl⟩
                obtain ⟨t2, ht2⟩ : ∃ t, stepS k (fn4 (s0, s1, s2, s3)) set 2 = t := ⟨_, rfl⟩
                obtain ⟨t3, ht3⟩ : ∃ t, stepS k (fn4 (s0, s1, s2, s3)) set 3 = t := ⟨_, rfl⟩
                have HSt : ∀ W : World, Calls Try.prog 66 #[A4 k, .agg #[.int .i64 s0, .int .i64 s1, .int .i64 s2, .int .i64 s3], .int .i64 set] W fun e w' => e = .returned (.tuple #[.agg #[.int .i64 t0, .int .i64 t1, .int .i64 t2, .int .i64 t3], .int .i64 d]) ∧ Below W.heap.size W w' := by
                  intro W
                  have := step_any k (fn4 (s0, s1, s2, s3)) set HSD.out W
                  rw [hdd] at this
                  simp only [A4, ht0, ht1', ht2, ht3] at this
                  exact this
                rw [hdd] at hd
                have HGO := Aside0.mk (show goS k (s0, s1, s2, s3) set = (t0, t1, t2, t3) from by rw [← ht0, ← ht1', ← ht2, ← ht3]; rfl)
                have HGD := Aside0.mk (show goD k (s0, s1, s2, s3) set = d from hdd)
                have HG4 := Aside0.mk (show good4 (t0, t1, t2, t3) from by rw [← ht0, ← ht1', ← ht2, ← ht3]; exact hgd)
                have b8 : 0 ≤ d := hd.1
                have b9 : d ≤ 30 := hd.2
                have hlen := few31 HKB.out HI.out.nd HI.out.reach
                have hlB : last ≤ 27705630 := by have := HI.out.lastB; omega
                have hTL := HTL.out
                have hnl : n ≤ 20000000 := by have := HN.out; omega
                clear hlen hset hmem hdrop hd hsn hgd hdd ht0 ht1' ht2 ht3 HI
                have q0 : wy.cell? ⟨w.heap.size, 0, none⟩ = some (.int .i64 (k 0)) := (blk_cell HW.out.kit 0).trans rfl
                have q1 : wy.cell? ⟨w.heap.size, 1, none⟩ = some (.int .i64 (k 1)) := (blk_cell HW.out.kit 1).trans rfl
                have q2 : wy.cell? ⟨w.heap.size, 2, none⟩ = some (.int .i64 (k 2)) := (blk_cell HW.out.kit 2).trans rfl
                have q3 : wy.cell? ⟨w.heap.size, 3, none⟩ = some (.int .i64 (k 3)) := (blk_cell HW.out.kit 3).trans rfl
                have r0 : wy.cell? ⟨wz.heap.size, 0, none⟩ = some (.int .i64 s0) := (blk_cell HX.out 0).trans rfl
                have r1 : wy.cell? ⟨wz.heap.size, 1, none⟩ = some (.int .i64 s1) := (blk_cell HX.out 1).trans rfl
                have r2 : wy.cell? ⟨wz.heap.size, 2, none⟩ = some (.int .i64 s2) := (blk_cell HX.out 2).trans rfl
                have r3 : wy.cell? ⟨wz.heap.size, 3, none⟩ = some (.int .i64 s3) := (blk_cell HX.out 3).trans rfl
                go_wp2_with fail
                refine (HSt _).mono ?_
                rintro e w5 ⟨rfl, hb5⟩
                have HB5 := Aside0.mk hb5
                clear hb5 q0 q1 q2 q3 r0 r1 r2 r3 ht1
                have HOW := Aside0.mk (show ∀ W : World, Below w5.heap.size w5 W → MM.own W (w.heap.size + 1) M1.length M1 from fun W hb => MapKd.own_below (MapKd.own_below HW.out.out HB5.out) hb)
                by_cases cz : 0 < d
                · have cz0 : decide (0 < d) = true := decide_eq_true cz
                  cases hg : getA M1 (t0, t1, t2, t3) with
                  | some u0 =>
                    have HG := Aside0.mk hg
                    clear hg
                    have HDR := Aside0.mk (HI'.out.drop (.inr ⟨u0, by rw [HGO.out]; exact getA_some HG.out⟩))
                    go_wp2_with (first | (at_lookup; refine wpList_lookup_ok_some _ MM rfl _ _ 55 rfl 3 Try.underlying55 0 (zeroI _) (w.heap.size + 1) M1.length M1 rfl (HOW.out _ (by repeat (first | exact Below.refl _ _ | apply below_alloc | apply pw_below_drewN))) (t0, t1, t2, t3) rfl HG4.out u0 HG.out (.int .i64 u0) rfl ?_) | fail)
                    have BA : Below wy.heap.size wy _ := below_alloc HB5.out (.cells #[.int .i64 t0, .int .i64 t1, .int .i64 t2, .int .i64 t3] 22 (0, 0))
                    exact ⟨⟨j + 1, last, Q', n, L, by go_num, rfl, HDR, HTL, ⟨by have := HN.out; omega⟩, ⟨HW.out.step BA⟩, ⟨HQ.out.below BA⟩, HV, ⟨blk_below HX.out BA⟩, ⟨by omega⟩⟩, by simp only [intOf]; omega⟩
                  | none =>
                    have HG := Aside0.mk hg
                    clear hg
                    have HPU := Aside0.mk (HI'.out.push (by rw [HGD.out]; exact cz) (by rw [HGD.out]; exact b9))
                    rw [HGD.out, HGO.out] at HPU
                    have BA : Below wy.heap.size wy (w5.alloc (.cells #[.int .i64 t0, .int .i64 t1, .int .i64 t2, .int .i64 t3] 22 (0, 0))) := below_alloc HB5.out _
                    obtain ⟨u, hu⟩ : ∃ u, (getA L (T + d)).getD (.slice none 0 0) = u := ⟨_, rfl⟩
                    have HU := Aside0.mk hu
                    have HQW := Aside0.mk (HQ.out.below BA)
                    have HRU := Aside0.mk (HQW.out.at hu)
                    have HWW := Aside0.mk (HW.out.step BA)
                    have HXW := Aside0.mk (blk_below HX.out BA)
                    have HSW := Aside0.mk (show w.heap.size ≤ (w5.alloc (.cells #[.int .i64 t0, .int .i64 t1, .int .i64 t2, .int .i64 t3] 22 (0, 0))).heap.size ∧ wz.heap.size < (w5.alloc (.cells #[.int .i64 t0, .int .i64 t1, .int .i64 t2, .int .i64 t3] 22 (0, 0))).heap.size from ⟨HWW.out.below.size, blk_lt HXW.out⟩)
                    have HLQ := Aside0.mk (show ((Q' (T + d)).length + 1) * 32 ≤ 140737488355328 from by
                      have h1 := HI'.out.len (T + d)
                      have h2 := few31 HKB.out HI'.out.nd HI'.out.reach
                      simp only [List.length_cons] at h1
                      omega)
                    have b10 : 0 ≤ T + d := by omega
                    have b11 : T + d ≤ 27705660 := by omega
                    clear hu BA
                    go_wp2_with (first | (at_lookup; refine wpList_lookup_ok_none _ MM rfl _ _ 55 rfl 3 Try.underlying55 0 (zeroI _) (w.heap.size + 1) M1.length M1 rfl (HOW.out _ (by repeat (first | exact Below.refl _ _ | apply below_alloc | apply pw_below_drewN))) (t0, t1, t2, t3) rfl HG4.out HG.out (.int .i64 0) rfl ?_) | (at_lookup; refine wpList_lookup_q _ mkT k4 (fun _ => rfl) rfl _ _ 100 rfl 43 22 Try.underlying100 (zeroRows _) w1.heap.size w.heap.size n _ Q' L rfl HQW.out (T + d) rfl ⟨b10, by omega⟩ u HU.out ?_) | (at_builtin; refine Kd.R_append k4 (w0 := w) w.heap.size rfl (.tmp 81) (.tmp 83) 43 22 (.agg #[(.int .i64 0), (.int .i64 0), (.int .i64 0), (.int .i64 0)]) 32 rfl Try.underlying43 info4q rfl (by decide) (by decide) u (Q' (T + d)) (t0, t1, t2, t3) [.int .i64 t0, .int .i64 t1, .int .i64 t2, .int .i64 t3] _ (fun _ => False) rfl (by first | (go_simp; done) | (go_simp; rfl)) (k4_mkM _ _ _ _) (fun _ h => h.elim) (fun q hq => ⟨trivial, by have := HSW.out.2; omega⟩) HRU.out HWW.out.below HSW.out.1 HLQ.out ?_; intro v4 w4 hO4 hB4 hg4 hat4) | (at_mapUpdate; refine wpList_update_q _ mkT k4 flat4 (fun _ => rfl) rfl _ _ _ 100 rfl 43 22 Try.underlying100 w1.heap.size w.heap.size n _ Q' (updQ Q' (T + d) (Q' (T + d) ++ [(t0, t1, t2, t3)])) rfl HQW.out HU.out hg4 hat4 (by rw [updQ_same]; exact hO4) (fun y hy => updQ_ne _ _ hy) (by unfold maxLen; omega) rfl rfl ⟨b10, by omega⟩ ?_; intro w6 hq6 hg6 hs6) | fail)
                    have hub := HQW.out.row_ne HU.out
                    have hown4 := MapKd.own_kept HQW.out.own hg4 (Ne.symm hub)
                    have HMX := Aside0.mk (show (if last < T + d then T + d else last) = max last (T + d) from by split <;> omega)
                    rw [HMX.out]
                    refine ⟨⟨j + 1, max last (T + d), updQ Q' (T + d) (Q' (T + d) ++ [(t0, t1, t2, t3)]), n + 1, _, by go_num, rfl, HPU, ⟨by omega⟩, ⟨by have := HN.out; omega⟩, ⟨(HWW.out.app HRU.out (Nat.le_refl _) hg4).mp hg6 (MapKd.own_is hown4) HBQ.out⟩, ⟨hq6⟩, ⟨?_⟩, ⟨blk_grown (blk_grown HXW.out hg4 (fun e => (HRU.out.1 _ e.symm).2 rfl)) hg6 (fun e => by have := HZQ.out; have := Option.some.inj e; omega)⟩, ⟨by omega⟩⟩, by simp only [intOf]; omega⟩
                    rw [getA_put, if_neg (by omega)]
                    exact HV.out
                · have cz0 : decide (0 < d) = false := decide_eq_false cz
                  have HDR := Aside0.mk (HI'.out.drop (.inl (by rw [HGD.out]; omega)))
                  cases hg : getA M1 (t0, t1, t2, t3) with
                  | some u0 =>
                    have HG := Aside0.mk hg
                    clear hg
                    go_wp2_with (first | (at_lookup; refine wpList_lookup_ok_some _ MM rfl _ _ 55 rfl 3 Try.underlying55 0 (zeroI _) (w.heap.size + 1) M1.length M1 rfl (HOW.out _ (by repeat (first | exact Below.refl _ _ | apply below_alloc | apply pw_below_drewN))) (t0, t1, t2, t3) rfl HG4.out u0 HG.out (.int .i64 u0) rfl ?_) | fail)
                    have BA : Below wy.heap.size wy _ := below_alloc HB5.out (.cells #[.int .i64 t0, .int .i64 t1, .int .i64 t2, .int .i64 t3] 22 (0, 0))
                    exact ⟨⟨j + 1, last, Q', n, L, by go_num, rfl, HDR, HTL, ⟨by have := HN.out; omega⟩, ⟨HW.out.step BA⟩, ⟨HQ.out.below BA⟩, HV, ⟨blk_below HX.out BA⟩, ⟨by omega⟩⟩, by simp only [intOf]; omega⟩
                  | none =>
                    have HG := Aside0.mk hg
                    clear hg
                    go_wp2_with (first | (at_lookup; refine wpList_lookup_ok_none _ MM rfl _ _ 55 rfl 3 Try.underlying55 0 (zeroI _) (w.heap.size + 1) M1.length M1 rfl (HOW.out _ (by repeat (first | exact Below.refl _ _ | apply below_alloc | apply pw_below_drewN))) (t0, t1, t2, t3) rfl HG4.out HG.out (.int .i64 0) rfl ?_) | fail)
                    have BA : Below wy.heap.size wy _ := below_alloc HB5.out (.cells #[.int .i64 t0, .int .i64 t1, .int .i64 t2, .int .i64 t3] 22 (0, 0))
                    exact ⟨⟨j + 1, last, Q', n, L, by go_num, rfl, HDR, HTL, ⟨by have := HN.out; omega⟩, ⟨HW.out.step BA⟩, ⟨HQ.out.below BA⟩, HV, ⟨blk_below HX.out BA⟩, ⟨by omega⟩⟩, by simp only [intOf]; omega⟩
              · have cj0 : decide (j < (setsL k).length) = false := decide_eq_false cj
                have cj1 : decide ((j : Int) < ((setsL k).length : Int)) = false := decide_eq_false (by omega)
                have HE := Aside0.mk (show (setsL k).drop j = [] from List.drop_eq_nil_of_le (by omega))
                go_wp2_with fail
                exact ⟨⟨i + 1, last, M1, Q', n, L, by go_num, rfl, ⟨(show MInv k M1 Q' T last (i + 1) (s0, s1, s2, s3) [] from HE.out ▸ HI.out).any calm0⟩, HTL, ⟨by have := HN.out; omega⟩, HW, ⟨HQ.out.free (fun _ _ => trivial)⟩, HV, ⟨by omega⟩⟩, by simp only [intOf]; omega⟩
        · have c1 : decide (i < (Q T).length) = false := decide_eq_false c
          have c2 : decide ((i : Int) < ((Q T).length : Int)) = false := decide_eq_false (by omega)
          clear hC hl0
          go_wp2_with (first | (at_delete; refine wpList_delete_q _ mkT k4 flat4 rfl _ _ 100 rfl 43 22 Try.underlying100 w1.heap.size w.heap.size n (fun _ => True) Q' (updQ Q' T []) rfl HQ.out T rfl ⟨hT0, by omega⟩ (fun y hy => updQ_ne _ _ hy) (updQ_same _ _ _) ?_; intro w6 hq6 hg6 hs6) | fail)
          exact ⟨⟨T + 1, last, M, updQ Q' T [], n, delA L T, by go_num, rfl, ⟨HI.out.tick (by have := HLEN.out; omega)⟩, HN, ⟨HW.out.mp hg6 HQ.out.is HBQ.out⟩, ⟨hq6⟩⟩, by simp only [intOf]; omega⟩
    · have c1 : decide (T ≤ last) = false := decide_eq_false c
      have HM := Aside0.mk (HI.out.met (by omega))
      go_wp2_with fail
      go_ret
      exact ⟨w.heap.size + 1, M, rfl, by omega, HW.out.out, HM.out, HW.out.below⟩
end Go.Proofs.Ytlhodfjdmafapaa
