/- Contract: the reference's search for the least times. No statement of the seat is proved here. -/
import Derived.Test.YtlhodfjdmafapaaEarlM
import Derived.Deep.RegionHeld3
import Derived.Deep.DeepCutAuto
import Derived.Deep.RegionLaw
namespace Go.Proofs.Ytlhodfjdmafapaa
open Go.RowKit Go.Proofs.YtlhodfjdmafapaaW.PrintWords Go.Proofs.YtlhodfjdmafapaaW.PrintLast Go.Proofs.Ytlhodfjdmafapaa.QNx
set_option linter.unusedVariables false
set_option linter.unusedSimpArgs false
def EarlPost (k : Nat → Int) (w : World) (e : Ending) (w' : World) : Prop :=
  ∃ v0 : Value, e = .returned v0 ∧ (Kd.int .i64).R 3 w' w.heap.size (fun _ => True) v0 (earlL k) ∧ Met k (metL k) ∧ Below w.heap.size w w'
theorem infoI : (Try.prog.info? 3).map (fun i => (i.zero, i.size, i.bytes)) = some (some (.int .i64 0), 1, 8) := by kernel_rfl
theorem infoR : (Try.prog.info? 38).map (fun i => (i.zero, i.size, i.bytes)) = some (some (.slice none 0 0), 1, 24) := by kernel_rfl
theorem start_base {k : Nat → Int} {w W : World} {g N co : Nat} {out : List Int} (hk : W.heap[w.heap.size]? = some (.cells #[.int .i64 (k 0), .int .i64 (k 1), .int .i64 (k 2), .int .i64 (k 3)] 27 (0, 0)))
    (ho : (Kd.int .i64).R 3 W w.heap.size (fun _ => True) (.slice (some ⟨g, 0, none⟩) N co) out) (hb : Below w.heap.size w W) :
    EBase k w g N co out (.slice (some ⟨W.heap.size + 1, 0, none⟩) 1 1) [⟨some ⟨W.heap.size, 0, none⟩, 1, 1⟩] startI ((W.alloc (.cells #[.int .i64 0] 3)).alloc (.cells #[.slice (some ⟨W.heap.size, 0, none⟩) 1 1] 38)) := by
  have hgl : g < W.heap.size := Kd.R_lt ho g rfl
  refine ⟨blk_alloc (blk_alloc hk _) _, Kd.R_alloc (Kd.R_alloc ho _) _, ?_, ⟨fun i h hh => ?_, fun i j h h' hi hj hne => ?_⟩, below_alloc (below_alloc hb _) _⟩
  · refine Kd.R_of_own (enc := encH) ?_ (fun _ _ => trivial)
    have := own_lit_of (enc := encH) (W.alloc (.cells #[.int .i64 0] 3)) w.heap.size 38 [⟨some ⟨W.heap.size, 0, none⟩, 1, 1⟩] (by have := hb.size; simp; omega) (by simp)
    simpa [encs, encH] using this
  · cases i with
    | zero =>
      simp only [List.getElem?_cons_zero, Option.some.injEq] at hh
      subst hh
      refine Kd.R_alloc (Kd.R_of_own (enc := Value.int .i64) (xs := [0]) ?_ (fun j hj => ?_)) _
      · have := own_lit_of (enc := Value.int .i64) W w.heap.size 3 [0] hb.size (by simp)
        simpa [encs, encH] using this
      · have : W.heap.size = j := by simpa [Value.ownBlock, encH] using hj
        omega
    | succ i => simp at hh
  · have e1 : i = 0 := by
      cases i with
      | zero => rfl
      | succ i => simp at hi
    have e2 : j = 0 := by
      cases j with
      | zero => rfl
      | succ i => simp at hj
    omega
set_option maxRecDepth 100000 in
set_option maxHeartbeats 4000000 in
theorem earl_any (k : Nat → Int) (hk : isKitB k = true) (hp : prodT k ≤ 3000) (w : World) : Calls Try.prog 45 #[A4 k] w (EarlPost k w) := by
  have HKB := Aside0.mk (kit_bounds hk)
  have HKK := Aside0.mk hk
  clear hk
  have hpr := prod_is HKB.out
  have hp1 := hpr.2
  go_enter Try.func45, Try.ntmps45
  go_wp2_with fail
  refine (l4Many_any k _).mono ?_
  rintro e w1 ⟨rfl, hb1⟩
  rw [hpr.1]
  obtain ⟨N, hN⟩ : ∃ N : Nat, (N : Int) = prodT k := ⟨(prodT k).toNat, by omega⟩
  rw [← hN]
  have HN := Aside0.mk hN
  have hN1 : 1 ≤ N := by omega
  have hN2 : N ≤ 3000 := by omega
  have HK1 := Aside0.mk (show w1.heap[w.heap.size]? = some (.cells #[.int .i64 (k 0), .int .i64 (k 1), .int .i64 (k 2), .int .i64 (k 3)] 27 (0, 0)) from blk_below (heap_alloc_new w _) hb1)
  have HB1 := Aside0.mk (show Below w.heap.size w w1 from below_chain (below_alloc (Below.refl _ _) _) hb1)
  clear hb1 hpr hp1 hp hN
  go_wp2_with (first | ((with_reducible refine gate_dst (N := 15) rfl ?_); refine Kd.R_make (Kd.int .i64) (w0 := w) w.heap.size 3 rfl (N := 15) rfl 38 _ _ rfl (N : Int) rfl rfl Try.underlying38 (.int .i64 0) 8 infoI rfl (by decide) (by omega) 0 (ok := fun _ => True) (okp := fun _ => True) rfl (fun _ hk => hk) trivial (by omega) (by omega) HB1.out HB1.out.size ?_; intro v3 w3 hR3 hb3 hg3 hn3))
  rw [Int.toNat_natCast] at hR3
  obtain ⟨g, cp, rfl, hgb, hgl, _⟩ := Kd.R_form hR3 (by rw [List.length_replicate]; omega)
  rw [List.length_replicate] at hR3 ⊢
  have HR3 := Aside0.mk hR3
  have HK3 := Aside0.mk (blk_grown HK1.out hg3 (by simp))
  have HB3 := Aside0.mk hb3
  have HGG := Aside0.mk (show w.heap.size ≤ g from hgb)
  clear hR3 hb3 hg3 hn3 hgb hgl
  go_loopw [4] (fun v4 wr => ∃ i : Nat, v4 = .int .i64 i ∧ Aside0 (i ≤ N) ∧ Aside0 ((Kd.int .i64).R 3 wr w.heap.size (fun _ => True) (.slice (some ⟨g, 0, none⟩) N cp) (List.replicate i (-1) ++ List.replicate (N - i) 0)) ∧ Aside0 (wr.heap[w.heap.size]? = some (.cells #[.int .i64 (k 0), .int .i64 (k 1), .int .i64 (k 2), .int .i64 (k 3)] 27 (0, 0))) ∧ Aside0 (Below w.heap.size w wr)) (fun v4 _ => N - (intOf v4).toNat)
  case atStart => exact ⟨0, rfl, ⟨Nat.zero_le _⟩, ⟨by simpa using HR3.out⟩, HK3, HB3⟩
  case round =>
    obtain ⟨i, rfl, HI, HR, HK, HB⟩ := hrel
    obtain ⟨wo, rfl⟩ : ∃ wo : World, wo = wr := ⟨_, rfl⟩
    have hiN := HI.out
    by_cases c : i < N
    · have c0 : decide (i < N) = true := decide_eq_true c
      have c1 : decide ((i : Int) < (N : Int)) = true := decide_eq_true (by omega)
      obtain ⟨hx, hf⟩ := Kd.R_celln (0 : Int) HR.out (i : Int) (by omega) (by omega)
      simp only [Int.toNat_natCast] at hx hf
      have p0 : (0 : Int) ≤ (i : Int) := by omega
      have p1 : (i : Int) < (N : Int) := by omega
      have hp0 := Kd.R_putg (enc := Value.int .i64) (h1 := fun _ => rfl) HR.out (i : Int) (-1)
      simp only [Int.toNat_natCast] at hp0
      have HP := Aside0.mk hp0
      clear hp0
      have HSET := Aside0.mk (show (List.replicate i (-1 : Int) ++ List.replicate (N - i) 0).set i (-1) = List.replicate (i + 1) (-1) ++ List.replicate (N - (i + 1)) 0 from by
        rw [List.set_append_right _ _ (by simp), List.length_replicate, Nat.sub_self, show N - i = (N - (i + 1)) + 1 by omega, List.replicate_succ, List.set_cons_zero, List.replicate_succ']
        simp)
      go_wp2_with fail
      exact ⟨⟨i + 1, by go_num, ⟨by omega⟩, ⟨by rw [← HSET.out]; exact HP.out.1⟩, ⟨blk_grown HK.out HP.out.2 (Kd.R_ne HR.out HK.out (by decide))⟩, ⟨HB.out.grown HP.out.2 HB.out.size (fun q hq => by have := Option.some.inj hq; have := HGG.out; omega)⟩⟩, by simp only [intOf]; omega⟩
    · have c0 : decide (i < N) = false := decide_eq_false c
      have c1 : decide ((i : Int) < (N : Int)) = false := decide_eq_false (by omega)
      have ei : i = N := by omega
      have HR2 := Aside0.mk (show (Kd.int .i64).R 3 wo w.heap.size (fun _ => True) (.slice (some ⟨g, 0, none⟩) N cp) (List.replicate N (-1)) from by
        have := HR.out
        rw [ei, Nat.sub_self, List.replicate_zero, List.append_nil] at this
        exact this)
      clear ei
      obtain ⟨hx, hf⟩ := Kd.R_celln (0 : Int) HR2.out (0 : Int) (by omega) (by omega)
      simp only [Int.toNat_zero] at hx hf
      have p1 : (0 : Int) < (N : Int) := by omega
      have hp0 := Kd.R_putg (enc := Value.int .i64) (h1 := fun _ => rfl) HR2.out (0 : Int) 0
      simp only [Int.toNat_zero] at hp0
      have hkit := blk_grown HK.out hp0.2 (Kd.R_ne HR2.out HK.out (by decide))
      have hbel := HB.out.grown hp0.2 HB.out.size (fun q hq => by have := Option.some.inj hq; have := HGG.out; omega)
      have hsz : (wo.setCell ⟨g, 0, none⟩ (.int .i64 0)).heap.size = wo.heap.size := by simp
      have HS := Aside0.mk (start_base (N := N) (co := cp) (g := g) (W := wo.setCell ⟨g, 0, none⟩ (.int .i64 0)) hkit hp0.1 hbel)
      rw [hsz] at HS
      clear hp0 hkit hbel hsz
      have HI0 := Aside0.mk (EInv.start HKB.out HN.out (by have := HN.out; omega))
      go_wp2_with fail
      obtain ⟨out0, hout0⟩ : ∃ o, o = (List.replicate N (-1 : Int)).set 0 0 := ⟨_, rfl⟩
      rw [← hout0] at HS HI0
      have hS2 := HS.out
      clear hx hf p1 HR HK HB HR2 hiN c c0 c1
      go_loopw [5, 6] (fun v5 v6 wr => ∃ (T : Nat) (lv : Value) (hs : List Hd) (out : List Int) (Q : Int → List Int), v5 = lv ∧ v6 = .int .i64 T ∧ Aside0 (EInv k out Q hs.length T 0 0 []) ∧ Aside0 (EBase k w g N cp out lv hs Q wr)) (fun _ v6 _ => 90002 - (intOf v6).toNat)
      case atStart => exact ⟨0, _, [⟨some ⟨wo.heap.size, 0, none⟩, 1, 1⟩], out0, startI, rfl, rfl, HI0, HS⟩
      case round =>
        clear HS HI0 hS2 HR3 HK3 HB3
        obtain ⟨T, lv, hs, out, Q, rfl, rfl, HI, HE⟩ := hrel
        obtain ⟨wz, rfl⟩ : ∃ wz : World, wz = wr := ⟨_, rfl⟩
        have hol : (out.length : Int) = N := by rw [HI.out.olen, HN.out]
        have hlB : hs.length ≤ 90001 := by
          have h1 := HI.out.lenB
          have h2 := cntO_le out
          omega
        have hl1 : 0 < hs.length := by
          have h1 := HI.out.olt 0 (Int.le_refl 0) (by have := HN.out; omega)
          rw [HI.out.zero] at h1
          omega
        obtain ⟨gl, cl, rfl⟩ := HE.out.form hl1
        have HOL := Aside0.mk hol
        clear hol
        by_cases c : T < hs.length
        · have c0 : decide (T < hs.length) = true := decide_eq_true c
          have c1 : decide ((T : Int) < (hs.length : Int)) = true := decide_eq_true (by omega)
          go_wp2_with fail
          go_loopw [5, 7] (fun v5 v7 wr => ∃ (n : Nat) (lv : Value) (hs : List Hd) (out : List Int) (Q : Int → List Int), v5 = lv ∧ v7 = .int .i64 n ∧ Aside0 (T < hs.length) ∧ Aside0 (n ≤ (Q T).length) ∧ Aside0 (EInv k out Q hs.length T n 0 []) ∧ Aside0 (EBase k w g N cp out lv hs Q wr)) (fun _ v7 _ => 3001 - (intOf v7).toNat)
          case atStart => exact ⟨0, _, hs, out, Q, rfl, rfl, ⟨c⟩, ⟨Nat.zero_le _⟩, HI, HE⟩
          case round =>
            have hTN : T ≤ 90001 := by omega
            clear HI HE hl1 hlB HOL c0 c1 c
            obtain ⟨n, lv, hs, out, Q, rfl, rfl, HT, HQ, HI, HE⟩ := hrel
            obtain ⟨wy, rfl⟩ : ∃ wy : World, wy = wr := ⟨_, rfl⟩
            have hTl := HT.out
            have hnQ := HQ.out
            obtain ⟨gl, cl, rfl⟩ := HE.out.form (by omega)
            obtain ⟨⟨ha, hn, hc⟩, hh⟩ : ∃ h, hs[T]? = some h := ⟨_, List.getElem?_eq_getElem hTl⟩
            have hhd : wy.cell? ⟨gl, T, none⟩ = some (.slice ha hn hc) := (HE.out.head T _ hh).1
            obtain rfl : hn = (Q T).length := HE.out.rowLen hh
            have hqN : (Q T).length ≤ N := by
              have := few_nats N ((Q T).map Int.toNat) (by
                unfold List.Nodup
                rw [List.pairwise_map]
                refine List.Pairwise.imp_of_mem ?_ (HI.out.nodup T)
                intro a b ha hb hne e
                have h1 := (HI.out.queue T a ha).1
                have h2 := (HI.out.queue T b hb).1
                omega) (fun x hx => by
                obtain ⟨a, ha, rfl⟩ := List.mem_map.1 hx
                have h1 := HI.out.queue T a ha
                have := HN.out
                omega)
              simpa using this
            have p0 : (0 : Int) ≤ (T : Int) := by omega
            have p1 : (T : Int) < (hs.length : Int) := by omega
            have HHH := Aside0.mk hh
            clear hh
            by_cases c : n < (Q T).length
            · have c0 : decide (n < (Q T).length) = true := decide_eq_true c
              have c1 : decide ((n : Int) < ((Q T).length : Int)) = true := decide_eq_true (by omega)
              obtain ⟨id, hid⟩ : ∃ id, (Q T)[n]? = some id := ⟨_, List.getElem?_eq_getElem c⟩
              obtain ⟨ad, rfl, hcell⟩ := HE.out.rowAt HHH.out n id hid
              have hq := HI.out.queue T id (List.mem_of_getElem? hid)
              have i0 : 0 ≤ id := hq.1
              have i1 : id < (N : Int) := by have := HN.out; omega
              obtain ⟨ho, _⟩ := HE.out.outAt id i0 i1
              have HID := Aside0.mk hid
              have p2 : (0 : Int) ≤ (n : Int) := by omega
              have p3 : (n : Int) < ((Q T).length : Int) := by omega
              clear hid hq
              by_cases cz : rd out id = (T : Int)
              · have z0 : (rd out id == (T : Int)) = true := by simp [cz]
                have z1 : (rd out id != (T : Int)) = false := by simp [cz]
                go_wp2_with fail
                have MK1 := Aside0.mk (show ∀ W' : World, Below wy.heap.size wy W' → W'.cell? ⟨w.heap.size, 0, none⟩ = some (.int .i64 (k 0)) ∧ W'.cell? ⟨w.heap.size, 1, none⟩ = some (.int .i64 (k 1)) ∧ W'.cell? ⟨w.heap.size, 2, none⟩ = some (.int .i64 (k 2)) ∧ W'.cell? ⟨w.heap.size, 3, none⟩ = some (.int .i64 (k 3)) from fun W' hb =>
                  have e := blk_below HE.out.kit hb
                  ⟨(blk_cell e 0).trans rfl, (blk_cell e 1).trans rfl, (blk_cell e 2).trans rfl, (blk_cell e 3).trans rfl⟩)
                have hbw := blk_lt HE.out.kit
                have hbw2 : w.heap.size ≤ wy.heap.size := by omega
                go_cut [9] (fun v9 wx => Aside0 (Kd.R k98 98 wx w.heap.size (fun _ => True) v9 ((nextL k id).map toS)) ∧ Aside0 (Below wy.heap.size wy wx))
                case first =>
                  go_region_held3 (fun w' => w'.cell? ⟨w.heap.size, 0, none⟩ = some (.int .i64 (k 0)) ∧ w'.cell? ⟨w.heap.size, 1, none⟩ = some (.int .i64 (k 1)) ∧ w'.cell? ⟨w.heap.size, 2, none⟩ = some (.int .i64 (k 2)) ∧ w'.cell? ⟨w.heap.size, 3, none⟩ = some (.int .i64 (k 3)))
                    (first | (refine MK1.out _ ?_; ((repeat first | (with_reducible assumption) | (with_reducible exact Below.refl _ _) | ((with_reducible refine bl_alloc _ ?_ ?_); focus (first | (simp; done) | (simp; omega) | omega | (exact below_size (by assumption)))) | (with_reducible refine Below.drew ?_) | (with_reducible refine bl_drewN _ ?_)); done)))
                    (first
                      | (go_at_call 79; refine (l4Sand_any k id HKB.out i0 (by omega) _).mono ?_; rintro e w7 ⟨rfl, hb7⟩; have q7 : Below wy.heap.size wy w7 := below_chain (by ((repeat first | (with_reducible assumption) | (with_reducible exact Below.refl _ _) | ((with_reducible refine bl_alloc _ ?_ ?_); focus (first | (simp; done) | (simp; omega) | omega | (exact below_size (by assumption)))) | (with_reducible refine Below.drew ?_) | (with_reducible refine bl_drewN _ ?_)); done)) hb7)
                      | (go_at_call 78; refine (steps_c k HKK.out id i0 _).mono ?_; rintro e w8 ⟨vn, rfl, hR9, hb8⟩; have q8 : Below wy.heap.size wy w8 := below_chain (by ((repeat first | (with_reducible assumption) | (with_reducible exact Below.refl _ _) | ((with_reducible refine bl_alloc _ ?_ ?_); focus (first | (simp; done) | (simp; omega) | omega | (exact below_size (by assumption)))) | (with_reducible refine Below.drew ?_) | (with_reducible refine bl_drewN _ ?_)); done)) hb8; have hRd := Kd.R_lower hR9 (Nat.le_trans hbw2 (below_size (show Below wy.heap.size wy _ by ((repeat first | (with_reducible assumption) | (with_reducible exact Below.refl _ _) | ((with_reducible refine bl_alloc _ ?_ ?_); focus (first | (simp; done) | (simp; omega) | omega | (exact below_size (by assumption)))) | (with_reducible refine Below.drew ?_) | (with_reducible refine bl_drewN _ ?_)); done))))))
                  all_goals
                    go_wp2_with fail
                    go_meet
                    exact ⟨⟨hRd⟩, ⟨q8⟩⟩
                case rest =>
                  obtain ⟨HR9, HBc⟩ := hcut
                  obtain ⟨A9, c9, rfl⟩ := Kd.R_slice HR9.out
                  rw [List.length_map] at HR9
                  rw [List.length_map]
                  have HX := Aside0.mk (show Nx k id w (.slice A9 (nextL k id).length c9) wc from ⟨HR9.out⟩)
                  have HEc := Aside0.mk (HE.out.step HBc.out)
                  have HTK := Aside0.mk (HI.out.take HID.out cz)
                  have hnx := nextL_len k id
                  have hn3 : n ≤ 3000 := by omega
                  clear HR9 HBc hcell ho z0 z1 cz
                  go_wp2_with fail
                  go_loopw [5, 10] (fun v5 v10 wr => ∃ (i : Nat) (lv : Value) (hs : List Hd) (out : List Int) (Q : Int → List Int), v5 = lv ∧ v10 = .int .i64 i ∧ Aside0 (T < hs.length) ∧ Aside0 (n + 1 ≤ (Q T).length) ∧ Aside0 (i ≤ (nextL k id).length) ∧ Aside0 (EInv k out Q hs.length T (n + 1) id ((nextL k id).drop i)) ∧ Aside0 (EBase k w g N cp out lv hs Q wr) ∧ Aside0 (Nx k id w (.slice A9 (nextL k id).length c9) wr)) (fun _ v10 _ => 17 - (intOf v10).toNat)
                  case atStart => exact ⟨0, _, hs, out, Q, rfl, rfl, HT, ⟨by omega⟩, ⟨Nat.zero_le _⟩, ⟨by rw [List.drop_zero]; exact HTK.out⟩, HEc, HX⟩
                  case round =>
                    clear HX HEc HTK HI HE hhd HHH hqN p1 p3 MK1 hbw hbw2 HT HQ
                    obtain ⟨i, lv, hs, out, Q, rfl, rfl, HT, HQ, HL, HI, HE, HX⟩ := hrel
                    obtain ⟨wx, rfl⟩ : ∃ wx : World, wx = wr := ⟨_, rfl⟩
                    have hTl := HT.out
                    have hil := HL.out
                    obtain ⟨gl, cl, rfl⟩ := HE.out.form (by omega)
                    by_cases ci : i < (nextL k id).length
                    · have ci0 : decide (i < (nextL k id).length) = true := decide_eq_true ci
                      have ci1 : decide ((i : Int) < ((nextL k id).length : Int)) = true := decide_eq_true (by omega)
                      obtain ⟨⟨y, d⟩, hp⟩ : ∃ p, (nextL k id)[i]? = some p := ⟨_, List.getElem?_eq_getElem ci⟩
                      obtain ⟨a9, rfl, hc0, hc1⟩ := HX.out.at i _ hp
                      have hdrop : (nextL k id).drop i = (y, d) :: (nextL k id).drop (i + 1) := by
                        rw [List.drop_eq_getElem_cons ci]
                        congr 1
                        rw [List.getElem?_eq_getElem ci] at hp
                        exact Option.some.inj hp
                      have HI' := Aside0.mk (hdrop ▸ HI.out : EInv k out Q hs.length T (n + 1) id ((y, d) :: (nextL k id).drop (i + 1)))
                      obtain ⟨set, s1, s2, s3, s4, s5, s6, s7⟩ := nextL_mem HKB.out i0 (List.mem_of_getElem? hp)
                      have y0 : 0 ≤ y := s5
                      have y1 : y < (N : Int) := by have := HN.out; simp only at s6; omega
                      have d0 : 0 < d := by simp only at s4; omega
                      have d1 : d ≤ 30 := by simp only at s4; omega
                      obtain ⟨hyo, hyf⟩ := HE.out.outAt y y0 y1
                      have q0 : (0 : Int) ≤ (i : Int) := by omega
                      have q1 : (i : Int) < ((nextL k id).length : Int) := by omega
                      obtain ⟨o, hoo⟩ : ∃ o, rd out y = o := ⟨_, rfl⟩
                      rw [hoo] at hyo
                      have HOO := Aside0.mk hoo
                      have HPI := Aside0.mk hp
                      clear hdrop s1 s2 s3 s4 s5 s6 s7 hp HI hoo
                      by_cases cs : 0 ≤ o ∧ o ≤ T + d
                      · have cs0 : decide (0 ≤ o) = true := decide_eq_true cs.1
                        have cs1 : decide (o ≤ T + d) = true := decide_eq_true cs.2
                        have HDR := Aside0.mk (HI'.out.drop (by show 0 ≤ rd out y ∧ rd out y ≤ T + d; rw [HOO.out]; exact cs))
                        clear cs
                        go_wp2_with fail
                        exact ⟨⟨i + 1, _, hs, out, Q, rfl, by go_num, HT, HQ, ⟨by omega⟩, HDR, HE, HX⟩, by simp only [intOf]; omega⟩
                      · have HPU := Aside0.mk (HI'.out.push HKB.out (by show ¬ (0 ≤ rd out y ∧ rd out y ≤ T + d); rw [HOO.out]; exact cs))
                        have hlB : hs.length ≤ 90001 := by
                          have h1 := HI'.out.lenB
                          have h2 := cntO_le out
                          have h3 := HI'.out.olen
                          have h4 := HN.out
                          omega
                        have hol : y < (out.length : Int) := by
                          have h3 := HI'.out.olen
                          have h4 := HN.out
                          omega
                        have HE2 := Aside0.mk (HE.out.setOut y (T + d) y0 hol)
                        have HX2 := Aside0.mk (HX.out.over (u := .slice (some ⟨g, 0, none⟩) N cp) (Kd.R_typed HE.out.out) (by decide) (Kd.R_putg (enc := Value.int .i64) (h1 := fun _ => rfl) HE.out.out y (T + d)).2)
                        have HQL := Aside0.mk (show ∀ u : Nat, hs.length ≤ u → Q u = [] from fun u hu => by
                          cases h : Q (u : Int) with
                          | nil => rfl
                          | cons a r =>
                            have := (HI'.out.queue u a (by rw [h]; exact List.mem_cons_self)).2.2.2.2
                            omega)
                        clear hol
                        by_cases cs0 : 0 ≤ o
                        · have cs1 : decide (0 ≤ o) = true := decide_eq_true cs0
                          have cs2 : decide (o ≤ T + d) = false := decide_eq_false (fun h => cs ⟨cs0, h⟩)
                          clear cs
                          go_wp2_with fail
                          go_loopw [5] (fun v5 wr => ∃ (lv : Value) (hs' : List Hd), v5 = lv ∧ Aside0 (hs.length ≤ hs'.length) ∧ Aside0 (hs'.length ≤ max hs.length (T + d + 1).toNat) ∧ Aside0 (EBase k w g N cp (out.set y.toNat (T + d)) lv hs' Q wr) ∧ Aside0 (Nx k id w (.slice (some a9) (nextL k id).length c9) wr)) (fun v5 _ => 90040 - lenOf v5)
                          case atStart => exact ⟨_, hs, rfl, ⟨Nat.le_refl _⟩, ⟨Nat.le_max_left _ _⟩, HE2, HX2⟩
                          case round =>
                            clear HE2 HX2 HE HX hyo hyf hc0 hc1
                            obtain ⟨lv, hs', rfl, HL1, HL2, HE, HX⟩ := hrel
                            obtain ⟨wv, rfl⟩ : ∃ wv : World, wv = wr := ⟨_, rfl⟩
                            have hL1 := HL1.out
                            have hL2 := HL2.out
                            obtain ⟨gl, cl, rfl⟩ := HE.out.form (by omega)
                            by_cases cg : (hs'.length : Int) ≤ T + d
                            · have cg0 : decide ((hs'.length : Int) ≤ T + d) = true := decide_eq_true cg
                              have hgb := HE.out.gbase
                              have HER := Aside0.mk (empty_row wv w.heap.size g HE.out.below.size hgb.2)
                              have BA : Below wv.heap.size wv (wv.alloc (.cells #[] 3)) := below_alloc (Below.refl _ _) _
                              have HEA := Aside0.mk (HE.out.step BA)
                              have HBA := Aside0.mk BA
                              clear BA hgb
                              go_wp2_with (first | (at_builtin; refine Kd.R_append KH (w0 := w) w.heap.size rfl (.tmp 102) (.tmp 104) 94 38 (.slice none 0 0) 24 rfl Try.underlying94 infoR rfl (by decide) (by decide) (.slice (some ⟨gl, 0, none⟩) hs'.length cl) hs' (⟨some ⟨wv.heap.size, 0, none⟩, 0, 0⟩ : Hd) [.slice (some ⟨wv.heap.size, 0, none⟩) 0 0] (fun _ => True) (fun _ => False) rfl (by first | (go_simp; done) | (go_simp; rfl)) rfl (fun _ h => h.elim) (fun _ _ => trivial) HEA.out.list HEA.out.below HEA.out.below.size (by omega) ?_; intro v4 w4 hO4 hB4 hg4 hat4) | fail)
                              have HG := Aside0.mk (HE.out.grow HBA.out HER.out (fun b hb => by
                                have : wv.heap.size = b := by simpa [Value.ownBlock, encH] using hb
                                omega) hO4 hg4 (HQL.out hs'.length hL1))
                              have HXG := Aside0.mk ((HX.out.below HBA.out).over (Kd.R_typed HEA.out.list) (by decide) hg4)
                              obtain ⟨A4', c4, rfl⟩ := Kd.R_slice hO4
                              refine ⟨⟨_, hs' ++ [⟨some ⟨wv.heap.size, 0, none⟩, 0, 0⟩], rfl, ⟨by rw [List.length_append]; omega⟩, ⟨by rw [List.length_append, List.length_cons, List.length_nil]; omega⟩, HG, HXG⟩, ?_⟩
                              simp only [lenOf, List.length_append, List.length_cons, List.length_nil]
                              omega
                            · have cg0 : decide ((hs'.length : Int) ≤ T + d) = false := decide_eq_false cg
                              obtain ⟨u, hu⟩ : ∃ u, (T + d : Int).toNat = u := ⟨_, rfl⟩
                              have hu2 : (u : Int) = T + d := by omega
                              obtain ⟨⟨xa, xn, xc⟩, hx⟩ : ∃ x, hs'[u]? = some x := ⟨_, List.getElem?_eq_getElem (by omega)⟩
                              have HU := Aside0.mk hu
                              have HU2 := Aside0.mk hu2
                              have HXX := Aside0.mk hx
                              have HRX := Aside0.mk (HE.out.rows.row u _ hx)
                              have HLQ := Aside0.mk (show ((Q u).length + 1) * 8 ≤ 140737488355328 from by
                                have := few_nats N ((Q u).map Int.toNat) (by
                                  unfold List.Nodup
                                  rw [List.pairwise_map]
                                  refine List.Pairwise.imp_of_mem ?_ (HI'.out.nodup u)
                                  intro a b ha hb hne e
                                  have h1 := (HI'.out.queue u a ha).1
                                  have h2 := (HI'.out.queue u b hb).1
                                  omega) (fun x hx => by
                                  obtain ⟨a, ha, rfl⟩ := List.mem_map.1 hx
                                  have h1 := HI'.out.queue u a ha
                                  have := HN.out
                                  omega)
                                rw [List.length_map] at this
                                omega)
                              have b0 : (0 : Int) ≤ T + d := by omega
                              have b1 : (T + d : Int) < (hs'.length : Int) := by omega
                              have hgs := HE.out.gbase
                              clear hx hu2
                              go_wp2_with fail
                              have hcell := cells26 HE.out.list HXX.out HX.out HPI.out
                              obtain ⟨k26a, k26b, k26c⟩ := hcell
                              have hglt : gl < wv.heap.size := Kd.R_lt HE.out.list gl rfl
                              go_region_law (refine Kd.R_append_rows_step (Kd.int .i64) (w0 := w) w.heap.size (by rfl) (.tmp 111) (.tmp 117) 38 3 (.int .i64 0) 8 rfl Try.underlying38 infoI rfl (by decide) (by decide) (.slice xa xn xc) (Q u) [y] _ _ _ (fun j => j ≠ g) (fun _ => False) rfl rfl (Kd.R_below HRX.out (show Below wv.heap.size wv _ by ((repeat first | (with_reducible assumption) | (with_reducible exact Below.refl _ _) | ((with_reducible refine bl_alloc _ ?_ ?_); focus (first | (simp; done) | (simp; omega) | omega | (exact below_size (by assumption)))) | (with_reducible refine Below.drew ?_) | (with_reducible refine bl_drewN _ ?_)); done))) (lit_readsI (by repeat (first | exact heap_alloc_new _ _ | refine blk_drew ?_ | refine blk_drewN ?_ _ | refine blk_alloc ?_ _))) (fun _ _ h => h) (fun _ h => h.elim) (fresh_of hgs.2 (by ((repeat first | (with_reducible assumption) | (with_reducible exact Below.refl _ _) | ((with_reducible refine bl_alloc _ ?_ ?_); focus (first | (simp; done) | (simp; omega) | omega | (exact below_size (by assumption)))) | (with_reducible refine Below.drew ?_) | (with_reducible refine bl_drewN _ ?_)); done))) (below_chain HE.out.below (show Below wv.heap.size wv _ by ((repeat first | (with_reducible assumption) | (with_reducible exact Below.refl _ _) | ((with_reducible refine bl_alloc _ ?_ ?_); focus (first | (simp; done) | (simp; omega) | omega | (exact below_size (by assumption)))) | (with_reducible refine Below.drew ?_) | (with_reducible refine bl_drewN _ ?_)); done))) (below_chain HE.out.below (show Below wv.heap.size wv _ by ((repeat first | (with_reducible assumption) | (with_reducible exact Below.refl _ _) | ((with_reducible refine bl_alloc _ ?_ ?_); focus (first | (simp; done) | (simp; omega) | omega | (exact below_size (by assumption)))) | (with_reducible refine Below.drew ?_) | (with_reducible refine bl_drewN _ ?_)); done))).size HLQ.out ?_; intro v9 w9 hO9 hB9 hg9 hat9; obtain ⟨A9', c9', rfl⟩ := Kd.R_slice hO9; have S9 := cells26 (Kd.R_over' (Kd.R_below HE.out.list (by ((repeat first | (with_reducible assumption) | (with_reducible exact Below.refl _ _) | ((with_reducible refine bl_alloc _ ?_ ?_); focus (first | (simp; done) | (simp; omega) | omega | (exact below_size (by assumption)))) | (with_reducible refine Below.drew ?_) | (with_reducible refine bl_drewN _ ?_)); done))) (Kd.R_typed (Kd.R_below HRX.out (by ((repeat first | (with_reducible assumption) | (with_reducible exact Below.refl _ _) | ((with_reducible refine bl_alloc _ ?_ ?_); focus (first | (simp; done) | (simp; omega) | omega | (exact below_size (by assumption)))) | (with_reducible refine Below.drew ?_) | (with_reducible refine bl_drewN _ ?_)); done)))) (by decide) hg9) HXX.out ((HX.out.below (by ((repeat first | (with_reducible assumption) | (with_reducible exact Below.refl _ _) | ((with_reducible refine bl_alloc _ ?_ ?_); focus (first | (simp; done) | (simp; omega) | omega | (exact below_size (by assumption)))) | (with_reducible refine Below.drew ?_) | (with_reducible refine bl_drewN _ ?_)); done))).over (Kd.R_typed (Kd.R_below HRX.out (by ((repeat first | (with_reducible assumption) | (with_reducible exact Below.refl _ _) | ((with_reducible refine bl_alloc _ ?_ ?_); focus (first | (simp; done) | (simp; omega) | omega | (exact below_size (by assumption)))) | (with_reducible refine Below.drew ?_) | (with_reducible refine bl_drewN _ ?_)); done)))) (by decide) hg9) HPI.out; have s9a : w9.cell? ⟨gl, u, none⟩ = some (.slice xa xn xc) := S9.1; have s9b : w9.frozen? ⟨gl, u, none⟩ = false := S9.2.1; clear S9)
                              all_goals
                                simp only [List.length_append, List.length_cons, List.length_nil, Nat.zero_add] at hO9 hat9
                                have HFN := Aside0.mk (HE.out.push (by ((repeat first | (with_reducible assumption) | (with_reducible exact Below.refl _ _) | ((with_reducible refine bl_alloc _ ?_ ?_); focus (first | (simp; done) | (simp; omega) | omega | (exact below_size (by assumption)))) | (with_reducible refine Below.drew ?_) | (with_reducible refine bl_drewN _ ?_)); done)) (x1 := ⟨A9', (Q u).length + 1, c9'⟩) HXX.out hO9 hg9 hat9)
                                have hl9 := Kd.R_over' (Kd.R_below HE.out.list (by ((repeat first | (with_reducible assumption) | (with_reducible exact Below.refl _ _) | ((with_reducible refine bl_alloc _ ?_ ?_); focus (first | (simp; done) | (simp; omega) | omega | (exact below_size (by assumption)))) | (with_reducible refine Below.drew ?_) | (with_reducible refine bl_drewN _ ?_)); done))) (Kd.R_typed (Kd.R_below HRX.out (by ((repeat first | (with_reducible assumption) | (with_reducible exact Below.refl _ _) | ((with_reducible refine bl_alloc _ ?_ ?_); focus (first | (simp; done) | (simp; omega) | omega | (exact below_size (by assumption)))) | (with_reducible refine Below.drew ?_) | (with_reducible refine bl_drewN _ ?_)); done)))) (by decide) hg9
                                have hx9 := (HX.out.below (by ((repeat first | (with_reducible assumption) | (with_reducible exact Below.refl _ _) | ((with_reducible refine bl_alloc _ ?_ ?_); focus (first | (simp; done) | (simp; omega) | omega | (exact below_size (by assumption)))) | (with_reducible refine Below.drew ?_) | (with_reducible refine bl_drewN _ ?_)); done))).over (Kd.R_typed (Kd.R_below HRX.out (by ((repeat first | (with_reducible assumption) | (with_reducible exact Below.refl _ _) | ((with_reducible refine bl_alloc _ ?_ ?_); focus (first | (simp; done) | (simp; omega) | omega | (exact below_size (by assumption)))) | (with_reducible refine Below.drew ?_) | (with_reducible refine bl_drewN _ ?_)); done)))) (by decide) hg9
                                have hp9 := (Kd.R_putg (enc := encH) (h1 := fun _ => rfl) hl9 (u : Int) (⟨A9', (Q u).length + 1, c9'⟩ : Hd)).2
                                rw [Int.toNat_natCast] at hp9
                                have HXF := Aside0.mk (hx9.over (u := .slice (some ⟨gl, 0, none⟩) hs'.length cl) (Kd.R_typed hl9) (by decide) hp9)
                                have hpu := HPU.out
                                rw [← HU2.out, show max hs.length ((u : Int) + 1).toNat = hs'.length from by have := HU2.out; omega] at hpu
                                rw [HU2.out] at hpu
                                have HPF := Aside0.mk hpu
                                clear hpu hl9 hx9 hp9
                                go_wp2_with fail
                                refine ⟨⟨i + 1, _, hs'.set u ⟨A9', (Q u).length + 1, c9'⟩, out.set y.toNat (T + d), updI Q u (Q u ++ [y]), rfl, by go_num, ⟨by rw [List.length_set]; omega⟩, ⟨?_⟩, ⟨by omega⟩, ⟨?_⟩, HFN, HXF⟩, by simp only [intOf]; omega⟩
                                · rw [updI_ne _ _ (by have := HU2.out; omega)]; exact HQ.out
                                · rw [List.length_set, HU2.out]; exact HPF.out
                        · have cs1 : decide (0 ≤ o) = false := decide_eq_false cs0
                          clear cs
                          go_wp2_with fail
                          go_loopw [5] (fun v5 wr => ∃ (lv : Value) (hs' : List Hd), v5 = lv ∧ Aside0 (hs.length ≤ hs'.length) ∧ Aside0 (hs'.length ≤ max hs.length (T + d + 1).toNat) ∧ Aside0 (EBase k w g N cp (out.set y.toNat (T + d)) lv hs' Q wr) ∧ Aside0 (Nx k id w (.slice (some a9) (nextL k id).length c9) wr)) (fun v5 _ => 90040 - lenOf v5)
                          case atStart => exact ⟨_, hs, rfl, ⟨Nat.le_refl _⟩, ⟨Nat.le_max_left _ _⟩, HE2, HX2⟩
                          case round =>
                            clear HE2 HX2 HE HX hyo hyf hc0 hc1
                            obtain ⟨lv, hs', rfl, HL1, HL2, HE, HX⟩ := hrel
                            obtain ⟨wv, rfl⟩ : ∃ wv : World, wv = wr := ⟨_, rfl⟩
                            have hL1 := HL1.out
                            have hL2 := HL2.out
                            obtain ⟨gl, cl, rfl⟩ := HE.out.form (by omega)
                            by_cases cg : (hs'.length : Int) ≤ T + d
                            · have cg0 : decide ((hs'.length : Int) ≤ T + d) = true := decide_eq_true cg
                              have hgb := HE.out.gbase
                              have HER := Aside0.mk (empty_row wv w.heap.size g HE.out.below.size hgb.2)
                              have BA : Below wv.heap.size wv (wv.alloc (.cells #[] 3)) := below_alloc (Below.refl _ _) _
                              have HEA := Aside0.mk (HE.out.step BA)
                              have HBA := Aside0.mk BA
                              clear BA hgb
                              go_wp2_with (first | (at_builtin; refine Kd.R_append KH (w0 := w) w.heap.size rfl (.tmp 102) (.tmp 104) 94 38 (.slice none 0 0) 24 rfl Try.underlying94 infoR rfl (by decide) (by decide) (.slice (some ⟨gl, 0, none⟩) hs'.length cl) hs' (⟨some ⟨wv.heap.size, 0, none⟩, 0, 0⟩ : Hd) [.slice (some ⟨wv.heap.size, 0, none⟩) 0 0] (fun _ => True) (fun _ => False) rfl (by first | (go_simp; done) | (go_simp; rfl)) rfl (fun _ h => h.elim) (fun _ _ => trivial) HEA.out.list HEA.out.below HEA.out.below.size (by omega) ?_; intro v4 w4 hO4 hB4 hg4 hat4) | fail)
                              have HG := Aside0.mk (HE.out.grow HBA.out HER.out (fun b hb => by
                                have : wv.heap.size = b := by simpa [Value.ownBlock, encH] using hb
                                omega) hO4 hg4 (HQL.out hs'.length hL1))
                              have HXG := Aside0.mk ((HX.out.below HBA.out).over (Kd.R_typed HEA.out.list) (by decide) hg4)
                              obtain ⟨A4', c4, rfl⟩ := Kd.R_slice hO4
                              refine ⟨⟨_, hs' ++ [⟨some ⟨wv.heap.size, 0, none⟩, 0, 0⟩], rfl, ⟨by rw [List.length_append]; omega⟩, ⟨by rw [List.length_append, List.length_cons, List.length_nil]; omega⟩, HG, HXG⟩, ?_⟩
                              simp only [lenOf, List.length_append, List.length_cons, List.length_nil]
                              omega
                            · have cg0 : decide ((hs'.length : Int) ≤ T + d) = false := decide_eq_false cg
                              obtain ⟨u, hu⟩ : ∃ u, (T + d : Int).toNat = u := ⟨_, rfl⟩
                              have hu2 : (u : Int) = T + d := by omega
                              obtain ⟨⟨xa, xn, xc⟩, hx⟩ : ∃ x, hs'[u]? = some x := ⟨_, List.getElem?_eq_getElem (by omega)⟩
                              have HU := Aside0.mk hu
                              have HU2 := Aside0.mk hu2
                              have HXX := Aside0.mk hx
                              have HRX := Aside0.mk (HE.out.rows.row u _ hx)
                              have HLQ := Aside0.mk (show ((Q u).length + 1) * 8 ≤ 140737488355328 from by
                                have := few_nats N ((Q u).map Int.toNat) (by
                                  unfold List.Nodup
                                  rw [List.pairwise_map]
                                  refine List.Pairwise.imp_of_mem ?_ (HI'.out.nodup u)
                                  intro a b ha hb hne e
                                  have h1 := (HI'.out.queue u a ha).1
                                  have h2 := (HI'.out.queue u b hb).1
                                  omega) (fun x hx => by
                                  obtain ⟨a, ha, rfl⟩ := List.mem_map.1 hx
                                  have h1 := HI'.out.queue u a ha
                                  have := HN.out
                                  omega)
                                rw [List.length_map] at this
                                omega)
                              have b0 : (0 : Int) ≤ T + d := by omega
                              have b1 : (T + d : Int) < (hs'.length : Int) := by omega
                              have hgs := HE.out.gbase
                              clear hx hu2
                              go_wp2_with fail
                              have hcell := cells26 HE.out.list HXX.out HX.out HPI.out
                              obtain ⟨k26a, k26b, k26c⟩ := hcell
                              have hglt : gl < wv.heap.size := Kd.R_lt HE.out.list gl rfl
                              go_region_law (refine Kd.R_append_rows_step (Kd.int .i64) (w0 := w) w.heap.size (by rfl) (.tmp 111) (.tmp 117) 38 3 (.int .i64 0) 8 rfl Try.underlying38 infoI rfl (by decide) (by decide) (.slice xa xn xc) (Q u) [y] _ _ _ (fun j => j ≠ g) (fun _ => False) rfl rfl (Kd.R_below HRX.out (show Below wv.heap.size wv _ by ((repeat first | (with_reducible assumption) | (with_reducible exact Below.refl _ _) | ((with_reducible refine bl_alloc _ ?_ ?_); focus (first | (simp; done) | (simp; omega) | omega | (exact below_size (by assumption)))) | (with_reducible refine Below.drew ?_) | (with_reducible refine bl_drewN _ ?_)); done))) (lit_readsI (by repeat (first | exact heap_alloc_new _ _ | refine blk_drew ?_ | refine blk_drewN ?_ _ | refine blk_alloc ?_ _))) (fun _ _ h => h) (fun _ h => h.elim) (fresh_of hgs.2 (by ((repeat first | (with_reducible assumption) | (with_reducible exact Below.refl _ _) | ((with_reducible refine bl_alloc _ ?_ ?_); focus (first | (simp; done) | (simp; omega) | omega | (exact below_size (by assumption)))) | (with_reducible refine Below.drew ?_) | (with_reducible refine bl_drewN _ ?_)); done))) (below_chain HE.out.below (show Below wv.heap.size wv _ by ((repeat first | (with_reducible assumption) | (with_reducible exact Below.refl _ _) | ((with_reducible refine bl_alloc _ ?_ ?_); focus (first | (simp; done) | (simp; omega) | omega | (exact below_size (by assumption)))) | (with_reducible refine Below.drew ?_) | (with_reducible refine bl_drewN _ ?_)); done))) (below_chain HE.out.below (show Below wv.heap.size wv _ by ((repeat first | (with_reducible assumption) | (with_reducible exact Below.refl _ _) | ((with_reducible refine bl_alloc _ ?_ ?_); focus (first | (simp; done) | (simp; omega) | omega | (exact below_size (by assumption)))) | (with_reducible refine Below.drew ?_) | (with_reducible refine bl_drewN _ ?_)); done))).size HLQ.out ?_; intro v9 w9 hO9 hB9 hg9 hat9; obtain ⟨A9', c9', rfl⟩ := Kd.R_slice hO9; have S9 := cells26 (Kd.R_over' (Kd.R_below HE.out.list (by ((repeat first | (with_reducible assumption) | (with_reducible exact Below.refl _ _) | ((with_reducible refine bl_alloc _ ?_ ?_); focus (first | (simp; done) | (simp; omega) | omega | (exact below_size (by assumption)))) | (with_reducible refine Below.drew ?_) | (with_reducible refine bl_drewN _ ?_)); done))) (Kd.R_typed (Kd.R_below HRX.out (by ((repeat first | (with_reducible assumption) | (with_reducible exact Below.refl _ _) | ((with_reducible refine bl_alloc _ ?_ ?_); focus (first | (simp; done) | (simp; omega) | omega | (exact below_size (by assumption)))) | (with_reducible refine Below.drew ?_) | (with_reducible refine bl_drewN _ ?_)); done)))) (by decide) hg9) HXX.out ((HX.out.below (by ((repeat first | (with_reducible assumption) | (with_reducible exact Below.refl _ _) | ((with_reducible refine bl_alloc _ ?_ ?_); focus (first | (simp; done) | (simp; omega) | omega | (exact below_size (by assumption)))) | (with_reducible refine Below.drew ?_) | (with_reducible refine bl_drewN _ ?_)); done))).over (Kd.R_typed (Kd.R_below HRX.out (by ((repeat first | (with_reducible assumption) | (with_reducible exact Below.refl _ _) | ((with_reducible refine bl_alloc _ ?_ ?_); focus (first | (simp; done) | (simp; omega) | omega | (exact below_size (by assumption)))) | (with_reducible refine Below.drew ?_) | (with_reducible refine bl_drewN _ ?_)); done)))) (by decide) hg9) HPI.out; have s9a : w9.cell? ⟨gl, u, none⟩ = some (.slice xa xn xc) := S9.1; have s9b : w9.frozen? ⟨gl, u, none⟩ = false := S9.2.1; clear S9)
                              all_goals
                                simp only [List.length_append, List.length_cons, List.length_nil, Nat.zero_add] at hO9 hat9
                                have HFN := Aside0.mk (HE.out.push (by ((repeat first | (with_reducible assumption) | (with_reducible exact Below.refl _ _) | ((with_reducible refine bl_alloc _ ?_ ?_); focus (first | (simp; done) | (simp; omega) | omega | (exact below_size (by assumption)))) | (with_reducible refine Below.drew ?_) | (with_reducible refine bl_drewN _ ?_)); done)) (x1 := ⟨A9', (Q u).length + 1, c9'⟩) HXX.out hO9 hg9 hat9)
                                have hl9 := Kd.R_over' (Kd.R_below HE.out.list (by ((repeat first | (with_reducible assumption) | (with_reducible exact Below.refl _ _) | ((with_reducible refine bl_alloc _ ?_ ?_); focus (first | (simp; done) | (simp; omega) | omega | (exact below_size (by assumption)))) | (with_reducible refine Below.drew ?_) | (with_reducible refine bl_drewN _ ?_)); done))) (Kd.R_typed (Kd.R_below HRX.out (by ((repeat first | (with_reducible assumption) | (with_reducible exact Below.refl _ _) | ((with_reducible refine bl_alloc _ ?_ ?_); focus (first | (simp; done) | (simp; omega) | omega | (exact below_size (by assumption)))) | (with_reducible refine Below.drew ?_) | (with_reducible refine bl_drewN _ ?_)); done)))) (by decide) hg9
                                have hx9 := (HX.out.below (by ((repeat first | (with_reducible assumption) | (with_reducible exact Below.refl _ _) | ((with_reducible refine bl_alloc _ ?_ ?_); focus (first | (simp; done) | (simp; omega) | omega | (exact below_size (by assumption)))) | (with_reducible refine Below.drew ?_) | (with_reducible refine bl_drewN _ ?_)); done))).over (Kd.R_typed (Kd.R_below HRX.out (by ((repeat first | (with_reducible assumption) | (with_reducible exact Below.refl _ _) | ((with_reducible refine bl_alloc _ ?_ ?_); focus (first | (simp; done) | (simp; omega) | omega | (exact below_size (by assumption)))) | (with_reducible refine Below.drew ?_) | (with_reducible refine bl_drewN _ ?_)); done)))) (by decide) hg9
                                have hp9 := (Kd.R_putg (enc := encH) (h1 := fun _ => rfl) hl9 (u : Int) (⟨A9', (Q u).length + 1, c9'⟩ : Hd)).2
                                rw [Int.toNat_natCast] at hp9
                                have HXF := Aside0.mk (hx9.over (u := .slice (some ⟨gl, 0, none⟩) hs'.length cl) (Kd.R_typed hl9) (by decide) hp9)
                                have hpu := HPU.out
                                rw [← HU2.out, show max hs.length ((u : Int) + 1).toNat = hs'.length from by have := HU2.out; omega] at hpu
                                rw [HU2.out] at hpu
                                have HPF := Aside0.mk hpu
                                clear hpu hl9 hx9 hp9
                                go_wp2_with fail
                                refine ⟨⟨i + 1, _, hs'.set u ⟨A9', (Q u).length + 1, c9'⟩, out.set y.toNat (T + d), updI Q u (Q u ++ [y]), rfl, by go_num, ⟨by rw [List.length_set]; omega⟩, ⟨?_⟩, ⟨by omega⟩, ⟨?_⟩, HFN, HXF⟩, by simp only [intOf]; omega⟩
                                · rw [updI_ne _ _ (by have := HU2.out; omega)]; exact HQ.out
                                · rw [List.length_set, HU2.out]; exact HPF.out
                    · have ci0 : decide (i < (nextL k id).length) = false := decide_eq_false ci
                      have ci1 : decide ((i : Int) < ((nextL k id).length : Int)) = false := decide_eq_false (by omega)
                      have HE0 := Aside0.mk (show (nextL k id).drop i = [] from List.drop_eq_nil_of_le (by omega))
                      go_wp2_with fail
                      exact ⟨⟨n + 1, _, hs, out, Q, rfl, by go_num, HT, HQ, ⟨(show EInv k out Q hs.length T (n + 1) id [] from HE0.out ▸ HI.out).any 0⟩, HE⟩, by simp only [intOf]; omega⟩
              · have z0 : (rd out id == (T : Int)) = false := by simp [cz]
                have z1 : (rd out id != (T : Int)) = true := by simp [cz]
                have HSK := Aside0.mk (HI.out.skip HID.out cz)
                clear cz
                go_wp2_with fail
                exact ⟨⟨n + 1, _, hs, out, Q, rfl, by go_num, HT, ⟨by omega⟩, HSK, HE⟩, by simp only [intOf]; omega⟩
            · have c0 : decide (n < (Q T).length) = false := decide_eq_false c
              have c1 : decide ((n : Int) < ((Q T).length : Int)) = false := decide_eq_false (by omega)
              go_wp2_with fail
              have HTK := Aside0.mk (HI.out.tick (by omega))
              exact ⟨⟨T + 1, _, hs, out, Q, rfl, by go_num, ⟨by have := HTK.out; rw [show ((T + 1 : Nat) : Int) = (T : Int) + 1 by omega]; exact this⟩, HE⟩, by simp only [intOf]; omega⟩
        · have c0 : decide (T < hs.length) = false := decide_eq_false c
          have c1 : decide ((T : Int) < (hs.length : Int)) = false := decide_eq_false (by omega)
          have HEA := Aside0.mk (HI.out.early HKB.out (by have := HN.out; omega) (by omega))
          go_wp2_with fail
          go_ret
          refine ⟨_, rfl, ?_, HEA.out.2, HE.out.below⟩
          have := HE.out.out
          rw [HEA.out.1] at this
          exact this
end Go.Proofs.Ytlhodfjdmafapaa
