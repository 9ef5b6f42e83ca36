/- Contracts: the number of a sand, and the cycle of steady turning. No statement of the seat is proved here. -/
import Derived.Test.YtekbfekghheejaaRun
import Derived.Test.YtekbfekghheejaaQSteady1
import Derived.Maps.OwnSet
import Derived.WideKeyArr
namespace Go.Proofs.Ytekbfekghheejaa
open Go.WideMaps (ArrKey)
open Go.RowKit Go.Maps Go.Proofs.YtekbfekghheejaaW.PrintWords Go.Proofs.YtekbfekghheejaaW.PrintLast
set_option linter.unusedVariables false
set_option linter.unusedSimpArgs false
theorem keyOf_four {P : Program} {k e : TypeId} {q : IntKind} (A : ArrKey P k e 4) (he : P.underlying e = some (.int q)) (hsz : ∃ m, P.types.size = m + 1) {a b c d : Int} (wa : (Lit.int q a).wf = true) (wb : (Lit.int q b).wf = true) (wc : (Lit.int q c).wf = true) (wd : (Lit.int q d).wf = true) :
    keyOf P k (.agg #[.int q a, .int q b, .int q c, .int q d]) = some (.string (keyBytes [.int q a, .int q b, .int q c, .int q d])) := by
  have hkt := A.keyType hsz
  obtain ⟨m, hm⟩ := hsz
  unfold keyOf
  simp only [A.hu]
  rw [if_pos (by simp [hkt, Value.formed, A.hu, A.size]), hm]
  unfold Program.keyLits
  simp only [A.hu, Value.cells]
  rw [if_pos (by rw [A.size]; rfl), show List.range 4 = [0, 1, 2, 3] from rfl, List.mapM_cons, List.mapM_cons, List.mapM_cons, List.mapM_cons, List.mapM_nil]
  simp [A.one, Program.keyLits, he, wa, wb, wc, wd]
theorem arr4 : ArrKey Try.prog 22 3 4 := ⟨Try.underlying22, by kernel_rfl, by kernel_rfl, by kernel_rfl⟩
theorem law4 : Keyed Try.prog 22 := Keyed.of_law arr4.law
theorem size4 : ∃ m, (Try.prog).types.size = m + 1 := ⟨(Try.prog).types.size - 1, by kernel_rfl⟩
/-- what a row of four reads as, as a key -/
def kl4 (g : Nat → Int) : Lit := .string (keyBytes [.int .i64 (g 0), .int .i64 (g 1), .int .i64 (g 2), .int .i64 (g 3)])
/-- small numbers -/
def Small (g : Nat → Int) : Prop := ∀ i, i < 4 → 0 ≤ g i ∧ g i ≤ 30
theorem Sand.small {k s : Nat → Int} (h : Sand k s) : Small s := fun i hi => ⟨h.lo i hi, Int.le_trans (h.hi i hi) (h.top i hi)⟩
theorem keyOf4 {g : Nat → Int} (h : Small g) : keyOf Try.prog 22 (A4 g) = some (kl4 g) := by
  have w : ∀ i, i < 4 → (Lit.int .i64 (g i)).wf = true := fun i hi => WalkArith.wf_i64 (by have := h i hi; omega)
  exact keyOf_four arr4 Try.underlying3 size4 (w 0 (by omega)) (w 1 (by omega)) (w 2 (by omega)) (w 3 (by omega))
theorem kl4_inj {g h : Nat → Int} (a : Small g) (b : Small h) (e : kl4 g = kl4 h) : g 0 = h 0 ∧ g 1 = h 1 ∧ g 2 = h 2 ∧ g 3 = h 3 := by
  have := law4.inj (keyOf4 a) (e ▸ keyOf4 b)
  simpa [A4] using this
def sqN (k s : Nat → Int) : Nat → Nat → Int
  | 0 => s
  | n + 1 => v4 (stepS k (sqN k s n) (steadySet k (sqN k s n)) 0) (stepS k (sqN k s n) (steadySet k (sqN k s n)) 1) (stepS k (sqN k s n) (steadySet k (sqN k s n)) 2) (stepS k (sqN k s n) (steadySet k (sqN k s n)) 3)
def tmN (k s : Nat → Int) : Nat → Int
  | 0 => 0
  | n + 1 => wrap64 (tmN k s n + stepD k (sqN k s n) (steadySet k (sqN k s n)))
def tmsN (k s : Nat → Int) (n : Nat) : List Int := (List.range (n + 1)).map (tmN k s)
theorem tmsN_len (k s : Nat → Int) (n : Nat) : (tmsN k s n).length = n + 1 := by simp [tmsN]
theorem tmsN_rd (k s : Nat → Int) (n i : Nat) (h : i ≤ n) : rd (tmsN k s n) (i : Int) = tmN k s i := by
  simp [tmsN, rd, List.getD_eq_getElem?_getD, List.getElem?_range (show i < n + 1 by omega)]
theorem tmsN_snoc (k s : Nat → Int) (n : Nat) : tmsN k s (n + 1) = tmsN k s n ++ [tmN k s (n + 1)] := by
  simp only [tmsN]; rw [List.range_succ (n := n + 1), List.map_append]; rfl
def cycAt (k s : Nat → Int) : Nat → Nat → Option (Nat × Nat)
  | 0, _ => none
  | f + 1, n => match (List.range n).find? (fun i => eq4B (sqN k s i) (sqN k s n)) with
    | some i => some (i, n)
    | none => cycAt k s f (n + 1)
theorem cycAt_le {k s : Nat → Int} : ∀ (f n : Nat) {i m : Nat}, cycAt k s f n = some (i, m) → n ≤ m ∧ m < n + f ∧ i < m
  | 0, n, i, m, h => by cases h
  | f + 1, n, i, m, h => by
    unfold cycAt at h
    split at h
    · rename_i i' e
      have := List.mem_of_find?_eq_some e
      simp only [Option.some.injEq, Prod.mk.injEq] at h
      obtain ⟨rfl, rfl⟩ := h
      exact ⟨Nat.le_refl _, by omega, List.mem_range.1 this⟩
    · have := cycAt_le f (n + 1) h
      omega
theorem sqN_sand {k s : Nat → Int} (h : Sand k s) : ∀ n, Sand k (sqN k s n)
  | 0 => h
  | n + 1 => by
    have := (sqN_sand h n).step (steadySet k (sqN k s n))
    exact ⟨fun i hi => by obtain rfl | rfl | rfl | rfl : i = 0 ∨ i = 1 ∨ i = 2 ∨ i = 3 := by omega
                          all_goals exact this.lo _ (by omega),
      fun i hi => by obtain rfl | rfl | rfl | rfl : i = 0 ∨ i = 1 ∨ i = 2 ∨ i = 3 := by omega
                     all_goals exact this.hi _ (by omega), this.top⟩
theorem eq4B_iff {g h : Nat → Int} : eq4B g h = true ↔ g 0 = h 0 ∧ g 1 = h 1 ∧ g 2 = h 2 ∧ g 3 = h 3 := by simp [eq4B, and_assoc]
theorem kl4_eq {g h : Nat → Int} (e : eq4B g h = true) : kl4 g = kl4 h := by
  obtain ⟨a, b, c, d⟩ := eq4B_iff.1 e
  unfold kl4; rw [a, b, c, d]
/-- the map of what was seen -/
structure Seen (k s : Nat → Int) (D : DataW Unit) (n : Nat) : Prop where
  has : ∀ g : Nat → Int, Small g → Maps.has D (kl4 g) = (List.range n).any (fun i => eq4B (sqN k s i) g)
  val : ∀ i, i < n → D.atKey (kl4 (sqN k s i)) (.lit (.int .i64 0)) = .lit (.int .i64 (i : Int))
theorem Seen.start (k s : Nat → Int) : Seen k s (.map []) 0 := ⟨fun g _ => by simp [Maps.has], fun i h => absurd h (Nat.not_lt_zero i)⟩
theorem Seen.found {k s : Nat → Int} (hs : Sand k s) {D : DataW Unit} {n i : Nat} (h : Seen k s D n) (hi : (List.range n).find? (fun i => eq4B (sqN k s i) (sqN k s n)) = some i) :
    Maps.has D (kl4 (sqN k s n)) = true ∧ ∀ c : Int, D.atKey (kl4 (sqN k s n)) (.lit (.int .i64 0)) = .lit (.int .i64 c) → c = (i : Int) := by
  have e := List.find?_some hi
  have m := List.mem_range.1 (List.mem_of_find?_eq_some hi)
  refine ⟨?_, fun c hc => ?_⟩
  · rw [h.has _ (sqN_sand hs n).small, List.any_eq_true]
    exact ⟨i, List.mem_range.2 m, e⟩
  · have := h.val i m
    rw [kl4_eq e, hc] at this
    simpa using this
theorem Seen.fresh {k s : Nat → Int} (hs : Sand k s) {D : DataW Unit} {n : Nat} (h : Seen k s D n) (hi : (List.range n).find? (fun i => eq4B (sqN k s i) (sqN k s n)) = none) :
    Maps.has D (kl4 (sqN k s n)) = false := by
  rw [h.has _ (sqN_sand hs n).small, List.any_eq_false]
  exact fun i hm => List.find?_eq_none.1 hi i hm
theorem Seen.put {k s : Nat → Int} (hs : Sand k s) {D : DataW Unit} {n : Nat} (h : Seen k s D n) (hD : IsMap D) (hi : (List.range n).find? (fun i => eq4B (sqN k s i) (sqN k s n)) = none) :
    Seen k s (D.put (kl4 (sqN k s n)) (.lit (.int .i64 (n : Int)))) (n + 1) := by
  have hk : WideAt.IsKeyLit (kl4 (sqN k s n)) := law4.key (keyOf4 (sqN_sand hs n).small)
  refine ⟨fun g hg => ?_, fun i hin => ?_⟩
  · rw [List.range_succ, List.any_append]
    by_cases e : kl4 g = kl4 (sqN k s n)
    · rw [e, has_put_same hD hk]
      have := kl4_inj hg (sqN_sand hs n).small e
      simp only [List.any_cons, List.any_nil, Bool.or_false]
      rw [eq4B_iff.2 ⟨this.1.symm, this.2.1.symm, this.2.2.1.symm, this.2.2.2.symm⟩, Bool.or_true]
    · rw [has_put_other e, h.has g hg]
      have : eq4B (sqN k s n) g = false := by
        cases q : eq4B (sqN k s n) g
        · rfl
        · exact absurd (kl4_eq q).symm e
      simp [this]
  · by_cases q : i = n
    · subst q; exact atKey_put_same hD hk _ _
    · rw [atKey_put_other (fun e => ?_)]
      · exact h.val i (by omega)
      · have := kl4_inj (sqN_sand hs i).small (sqN_sand hs n).small e
        exact List.find?_eq_none.1 hi i (List.mem_range.2 (by omega)) (eq4B_iff.2 this)
theorem zeroI (w : World) : (zeroValue 3).run Try.prog w = .ok (.int .i64 0) w := by kernel_rfl
theorem owns_keep {w w' : World} {b n : Nat} {D : DataW Unit} {R : Value → Option (DataW Unit × List MemPlace)} (h : w.ownsMap Try.prog 22 R b n D) (e : ∀ o, w.heap[b]? = some o → w'.heap[b]? = some o) : w'.ownsMap Try.prog 22 R b n D := by
  obtain ⟨es, clock, hb, r⟩ := h
  exact ⟨es, clock, e _ hb, r⟩
theorem sandB_c {k s : Nat → Int} (h : Sand k s) : isSandB k s = true := by
  simp only [isSandB, Bool.and_eq_true, inB_iff]
  exact ⟨⟨⟨⟨h.lo 0 (by omega), h.hi 0 (by omega)⟩, ⟨h.lo 1 (by omega), h.hi 1 (by omega)⟩⟩, ⟨h.lo 2 (by omega), h.hi 2 (by omega)⟩⟩, ⟨h.lo 3 (by omega), h.hi 3 (by omega)⟩⟩
theorem steady_any (k s : Nat → Int) (q : (isKitB k && isSandB k s) = true) (w : World) : Calls Try.prog 43 #[A4 k, A4 s] w fun e w' => e = .returned (.tuple #[A4 (stepS k s (steadySet k s)), .int .i64 (stepD k s (steadySet k s))]) ∧ Below w.heap.size w w' := by
  refine QSteady.impl_Kit_steady.calls (k 0) (k 1) (k 2) (k 3) (s 0) (s 1) (s 2) (s 3) (stepS k s (steadySet k s) 0) (stepS k s (steadySet k s) 1) (stepS k s (steadySet k s) 2) (stepS k s (steadySet k s) 3) (stepD k s (steadySet k s)) w ?_
  unfold QSteady.impl_Kit_steady.f xAll.f xRunning.f xStep.f
  have q' : (isKitB (v4 (k 0) (k 1) (k 2) (k 3)) && isSandB (v4 (k 0) (k 1) (k 2) (k 3)) (v4 (s 0) (s 1) (s 2) (s 3))) = true := q
  simp only [Option.bind_some, if_pos q']
  rw [steady_all (sand_of' q')]
  rfl
set_option maxHeartbeats 1600000 in
theorem cycle_any (k s : Nat → Int) (q : (isKitB k && isSandB k s) = true) (i0 n0 : Nat) (hc : cycAt k s 4000 0 = some (i0, n0)) (w : World) :
    Calls Try.prog 45 #[A4 k, A4 s] w fun e w' => e = .returned (.tuple #[.int .i64 (tmN k s i0), .int .i64 (wrap64 (tmN k s n0 - tmN k s i0)), .int .i64 ((n0 : Int) - (i0 : Int))]) ∧ Below w.heap.size w w' := by
  have hs : Sand k s := by rw [Bool.and_eq_true] at q; exact sand_of q.1 q.2
  have HS := Aside0.mk hs
  have HQ := Aside0.mk q
  have HN := Aside0.mk (cycAt_le 4000 0 hc)
  have HC := Aside0.mk hc
  clear hs q hc
  have hmm := @run_makeMap Try.prog
  go_enter Try.func45, Try.ntmps45
  go_wp2_with fail
  go_loopw [8, 9] (fun v8 v9 wr => ∃ (j fu : Nat) (D : DataW Unit), v9 = .int .i64 j ∧ Aside0 (cycAt k s fu j = some (i0, n0)) ∧ Aside0 (Seen k s D j) ∧ Aside0 (wr.ownsMap Try.prog 22 (plainElem Try.prog 3) (w.heap.size + 1 + 1) j D) ∧ Aside0 (Kd.R (Kd.int .i64) 3 wr w.heap.size (fun b => b ≠ w.heap.size + 1 + 1) v8 (tmsN k s j)) ∧ Aside0 (Blk wr w.heap.size k 28) ∧ Aside0 (Blk wr (w.heap.size + 1) (sqN k s j) 22) ∧ Aside0 (Below w.heap.size w wr)) (fun _ v9 _ => n0 + 1 - (intOf v9).toNat)
  case atStart =>
    refine ⟨0, 4000, .map [], rfl, HC, ⟨Seen.start k s⟩, ⟨?_⟩, ⟨?_⟩, ⟨?_⟩, ⟨?_⟩, ⟨?_⟩⟩
    · have := World.ownsMap_made ((w.alloc (.cells #[.int .i64 (k 0), .int .i64 (k 1), .int .i64 (k 2), .int .i64 (k 3)] 28)).alloc (.cells #[.int .i64 (s 0), .int .i64 (s 1), .int .i64 (s 2), .int .i64 (s 3)] 22)) Try.prog 22 (plainElem (H := Unit) Try.prog 3)
      simp only [World.size_alloc] at this
      exact this.alloc _
    · exact Kd.R_of_own (enc := Value.int .i64) (by simpa [nums, encs, tmsN, tmN] using own_lit (((w.alloc (.cells #[.int .i64 (k 0), .int .i64 (k 1), .int .i64 (k 2), .int .i64 (k 3)] 28)).alloc (.cells #[.int .i64 (s 0), .int .i64 (s 1), .int .i64 (s 2), .int .i64 (s 3)] 22)).alloc (.map #[] 0)) w.heap.size 3 .i64 [0] (by simp; omega) (by simp)) (fun b hb => by simp [Value.ownBlock] at hb; omega)
    · exact blk_alloc (blk_alloc (blk_alloc (heap_alloc_new w _) _) _) _
    · exact blk_alloc (blk_alloc (by simpa [sqN] using heap_alloc_new (w.alloc (.cells #[.int .i64 (k 0), .int .i64 (k 1), .int .i64 (k 2), .int .i64 (k 3)] 28)) (.cells #[.int .i64 (s 0), .int .i64 (s 1), .int .i64 (s 2), .int .i64 (s 3)] 22)) _) _
    · exact below_alloc (below_alloc (below_alloc (below_alloc (Below.refl _ _) _) _) _) _
  case round =>
    obtain ⟨j, fu, D, rfl, HF, HD, HM, HR, HK, HA, HB⟩ := hrel
    have hj := cycAt_le fu j HF.out
    have hnn := HN.out
    have hjn : j ≤ n0 := hj.1
    have hn4 : n0 < 4000 := by omega
    have hS1 := sqN_sand HS.out j
    have HKEY := Aside0.mk (keyOf4 hS1.small)
    obtain ⟨f, rfl⟩ : ∃ f, fu = f + 1 := by cases fu with
      | zero => exact absurd HF.out (by simp [cycAt])
      | succ f => exact ⟨f, rfl⟩
    have hf := HF.out
    unfold cycAt at hf
    obtain ⟨s1, hs1⟩ : ∃ s1, s1 = sqN k s j := ⟨_, rfl⟩
    have a0 := HA.out.c0
    have a1 := HA.out.c1
    have a2 := HA.out.c2
    have a3 := HA.out.c3
    clear hj hnn hS1
    cases e : (List.range j).find? (fun i => eq4B (sqN k s i) (sqN k s j)) with
    | some i =>
      rw [e] at hf
      simp only [Option.some.injEq, Prod.mk.injEq] at hf
      obtain ⟨rfl, rfl⟩ := hf
      obtain ⟨hh, hv⟩ := HD.out.found HS.out e
      have hij := List.mem_range.1 (List.mem_of_find?_eq_some e)
      have HV := Aside0.mk hv
      clear hv e
      obtain ⟨A, cp, rfl, hcp, hC⟩ := Kd.R_reads HR.out
      obtain ⟨at1, e1, ht1⟩ := Kd.at_int hC (j : Int) (by omega) (by rw [tmsN_len]; omega)
      cases e1
      obtain ⟨at2, e2, ht2⟩ := Kd.at_int hC (i : Int) (by omega) (by rw [tmsN_len]; omega)
      cases e2
      rw [tmsN_rd _ _ _ _ (Nat.le_refl _)] at ht1
      rw [tmsN_rd _ _ _ _ (by omega)] at ht2
      have ht1' : wr.cell? (at1.add j) = some (.int .i64 (tmN k s j)) := by simpa using ht1
      have ht2' : wr.cell? (at1.add i) = some (.int .i64 (tmN k s i)) := by simpa using ht2
      have p1 : (0 : Int) ≤ (j : Int) := by omega
      have p2 : (0 : Int) ≤ (i : Int) := by omega
      have p3 : (j : Int) < (j : Int) + 1 := by omega
      have p4 : (i : Int) < (j : Int) + 1 := by omega
      have p5 : wrap64 ((j : Int) - (i : Int)) = (j : Int) - (i : Int) := by unfold wrap64; omega
      have hwr := World.block_lt_of_cell? _ _ ht1'
      clear ht1 ht2
      simp only [tmsN_len] at *
      have HCP := Aside0.mk hcp
      clear hcp hC
      go_wp2_with (first | (at_lookup; refine wpList_lookup_own_ok_int _ rfl _ _ 93 rfl 22 3 .i64 law4 Try.underlying93 Try.underlying3 (zeroI _) (w.heap.size + 1 + 1) j D rfl HM.out _ _ rfl HKEY.out ?_; intro c hat hwc; obtain rfl := HV.out c hat) | fail)
      have hfin := HN
      go_region
      go_wp2_with fail
      refine bodyPost_ret (v := .tuple #[.int .i64 (tmN k s i), .int .i64 (wrap64 (tmN k s j - tmN k s i)), .int .i64 ((j : Int) - (i : Int))]) (by simp [results, Try.results45, go_sem, *]) rfl ⟨rfl, ?_⟩
      exact Below.drew HB.out
    | none =>
      rw [e] at hf
      have hh := HD.out.fresh HS.out e
      have HE := Aside0.mk e
      have HF2 := Aside0.mk hf
      clear e hf
      have k0 := HK.out.c0
      have k1 := HK.out.c1
      have k2 := HK.out.c2
      have k3 := HK.out.c3
      go_wp2_with (first | (at_lookup; refine wpList_lookup_own_ok_int _ rfl _ _ 93 rfl 22 3 .i64 law4 Try.underlying93 Try.underlying3 (zeroI _) (w.heap.size + 1 + 1) j D rfl HM.out _ _ rfl HKEY.out ?_; intro c hat hwc; clear hat hwc) | (at_mapUpdate; refine wpList_mapUpdate_own _ rfl _ _ _ 93 rfl 22 3 law4 Try.underlying93 _ (w.heap.size + 1 + 1) j D rfl HM.out (by unfold maxLen; omega) _ _ _ rfl rfl HKEY.out _ [] (plainElem_int Try.underlying3 (WalkArith.wf_i64 (by omega))) ?_; intro w1 hown1 hgrow1; have HM1 := Aside0.mk hown1; have HK1 := Aside0.mk (show Blk w1 w.heap.size k 28 from (hgrow1.block _ (blk_lt HK.out) (by simp; omega)).trans HK.out); have HA1 := Aside0.mk (show Blk w1 (w.heap.size + 1) (sqN k s j) 22 from (hgrow1.block _ (blk_lt HA.out) (by simp)).trans HA.out); have HR1 := Aside0.mk (Kd.R_grown HR.out hgrow1 (fun b hb e => hb (by simpa using e))); have HB1 := Aside0.mk (HB.out.grown hgrow1 HB.out.size (fun b hb => by simp at hb; omega)); clear hown1 hgrow1 a0 a1 a2 a3 k0 k1 k2 k3; have k0 := HK1.out.c0; have k1 := HK1.out.c1; have k2 := HK1.out.c2; have k3 := HK1.out.c3; have a0 := HA1.out.c0; have a1 := HA1.out.c1; have a2 := HA1.out.c2; have a3 := HA1.out.c3) | fail)
      refine (steady_any k (sqN k s j) (by have := HQ.out; rw [Bool.and_eq_true] at this ⊢; exact ⟨this.1, sandB_c (sqN_sand HS.out j)⟩) _).mono ?_
      rintro e w2 ⟨rfl, hb⟩
      have HB2 := Aside0.mk (below_chain HB1.out hb)
      have HK2 := Aside0.mk (show Blk w2 w.heap.size k 28 from blk_below HK1.out hb)
      have HA2 := Aside0.mk (show Blk w2 (w.heap.size + 1) (sqN k s j) 22 from blk_below HA1.out hb)
      have HM2 := Aside0.mk (owns_keep HM1.out (fun o ho => blk_below ho hb))
      have HR2 := Aside0.mk (Kd.R_below HR1.out hb)
      clear hb k0 k1 k2 k3 a0 a1 a2 a3
      have n0_ : w.heap.size < w2.heap.size := blk_lt HK2.out
      have n1_ : w.heap.size + 1 < w2.heap.size := blk_lt HA2.out
      have n2_ : w.heap.size + 1 + 1 < w2.heap.size := by
        obtain ⟨es, clock, hb, _⟩ := HM2.out
        exact blk_lt hb
      have a0 := HA2.out.c0
      have a1 := HA2.out.c1
      have a2 := HA2.out.c2
      have a3 := HA2.out.c3
      have g0 := HA2.out.fr 0
      have g1 := HA2.out.fr 1
      have g2 := HA2.out.fr 2
      have g3 := HA2.out.fr 3
      have HR3 := Aside0.mk (Kd.R_alloc (R_four (x0 := (.int .i64 (stepS k (sqN k s j) (steadySet k (sqN k s j)) 0))) (x1 := (.int .i64 (stepS k (sqN k s j) (steadySet k (sqN k s j)) 1))) (x2 := (.int .i64 (stepS k (sqN k s j) (steadySet k (sqN k s j)) 2))) (x3 := (.int .i64 (stepS k (sqN k s j) (steadySet k (sqN k s j)) 3))) HR2.out HA2.out (by decide)) (.cells #[.int .i64 (stepS k (sqN k s j) (steadySet k (sqN k s j)) 0), .int .i64 (stepS k (sqN k s j) (steadySet k (sqN k s j)) 1), .int .i64 (stepS k (sqN k s j) (steadySet k (sqN k s j)) 2), .int .i64 (stepS k (sqN k s j) (steadySet k (sqN k s j)) 3)] 22))
      have HK3 := Aside0.mk (blk_alloc (Blk.far (b' := w.heap.size + 1) (x0 := (.int .i64 (stepS k (sqN k s j) (steadySet k (sqN k s j)) 0))) (x1 := (.int .i64 (stepS k (sqN k s j) (steadySet k (sqN k s j)) 1))) (x2 := (.int .i64 (stepS k (sqN k s j) (steadySet k (sqN k s j)) 2))) (x3 := (.int .i64 (stepS k (sqN k s j) (steadySet k (sqN k s j)) 3))) HK2.out (by omega)) (.cells #[.int .i64 (stepS k (sqN k s j) (steadySet k (sqN k s j)) 0), .int .i64 (stepS k (sqN k s j) (steadySet k (sqN k s j)) 1), .int .i64 (stepS k (sqN k s j) (steadySet k (sqN k s j)) 2), .int .i64 (stepS k (sqN k s j) (steadySet k (sqN k s j)) 3)] 22))
      have HA3 := Aside0.mk (blk_alloc (Blk.four (h := stepS k (sqN k s j) (steadySet k (sqN k s j))) HA2.out) (.cells #[.int .i64 (stepS k (sqN k s j) (steadySet k (sqN k s j)) 0), .int .i64 (stepS k (sqN k s j) (steadySet k (sqN k s j)) 1), .int .i64 (stepS k (sqN k s j) (steadySet k (sqN k s j)) 2), .int .i64 (stepS k (sqN k s j) (steadySet k (sqN k s j)) 3)] 22))
      have HM3 := Aside0.mk (((((HM2.out.setCell (a := ⟨w.heap.size + 1, 0, none⟩) (by show w.heap.size + 1 + 1 ≠ w.heap.size + 1; omega) (.int .i64 (stepS k (sqN k s j) (steadySet k (sqN k s j)) 0))).setCell (a := ⟨w.heap.size + 1, 1, none⟩) (by show w.heap.size + 1 + 1 ≠ w.heap.size + 1; omega) (.int .i64 (stepS k (sqN k s j) (steadySet k (sqN k s j)) 1))).setCell (a := ⟨w.heap.size + 1, 2, none⟩) (by show w.heap.size + 1 + 1 ≠ w.heap.size + 1; omega) (.int .i64 (stepS k (sqN k s j) (steadySet k (sqN k s j)) 2))).setCell (a := ⟨w.heap.size + 1, 3, none⟩) (by show w.heap.size + 1 + 1 ≠ w.heap.size + 1; omega) (.int .i64 (stepS k (sqN k s j) (steadySet k (sqN k s j)) 3))).alloc (.cells #[.int .i64 (stepS k (sqN k s j) (steadySet k (sqN k s j)) 0), .int .i64 (stepS k (sqN k s j) (steadySet k (sqN k s j)) 1), .int .i64 (stepS k (sqN k s j) (steadySet k (sqN k s j)) 2), .int .i64 (stepS k (sqN k s j) (steadySet k (sqN k s j)) 3)] 22))
      have HB3 := Aside0.mk (below_alloc (bl_four' (x0 := (.int .i64 (stepS k (sqN k s j) (steadySet k (sqN k s j)) 0))) (x1 := (.int .i64 (stepS k (sqN k s j) (steadySet k (sqN k s j)) 1))) (x2 := (.int .i64 (stepS k (sqN k s j) (steadySet k (sqN k s j)) 2))) (x3 := (.int .i64 (stepS k (sqN k s j) (steadySet k (sqN k s j)) 3))) (b := w.heap.size + 1) HB2.out (by omega)) (.cells #[.int .i64 (stepS k (sqN k s j) (steadySet k (sqN k s j)) 0), .int .i64 (stepS k (sqN k s j) (steadySet k (sqN k s j)) 1), .int .i64 (stepS k (sqN k s j) (steadySet k (sqN k s j)) 2), .int .i64 (stepS k (sqN k s j) (steadySet k (sqN k s j)) 3)] 22))
      have hr3 := R_four (x0 := (.int .i64 (stepS k (sqN k s j) (steadySet k (sqN k s j)) 0))) (x1 := (.int .i64 (stepS k (sqN k s j) (steadySet k (sqN k s j)) 1))) (x2 := (.int .i64 (stepS k (sqN k s j) (steadySet k (sqN k s j)) 2))) (x3 := (.int .i64 (stepS k (sqN k s j) (steadySet k (sqN k s j)) 3))) HR2.out HA2.out (by decide)
      obtain ⟨A, cp, rfl, hcp, hC⟩ := Kd.R_reads hr3
      obtain ⟨at1, e1, ht1⟩ := Kd.at_int hC (j : Int) (by omega) (by rw [tmsN_len]; omega)
      cases e1
      rw [tmsN_rd _ _ _ _ (Nat.le_refl _)] at ht1
      have ht1' := ht1
      rw [show ((j : Int)).toNat = j from Int.toNat_natCast j] at ht1'
      simp only [tmsN_len] at *
      have p1 : (0 : Int) ≤ (j : Int) := by omega
      have p3 : (j : Int) < (j : Int) + 1 := by omega
      have hwr := World.block_lt_of_cell? _ _ ht1'
      simp only [World.size_setCell] at hwr
      have HCP := Aside0.mk hcp
      clear ht1 hcp hC hr3
      go_wp2_with (first | (at_builtin; refine Kd.R_append (Kd.int .i64) (w0 := w) w.heap.size rfl (.tmp 51) (.tmp 58) 25 3 (.int .i64 0) 8 rfl Try.underlying25 infoI rfl (by decide) (by omega) _ (tmsN k s j) _ [_] (fun b => b ≠ w.heap.size + 1 + 1) (fun _ => False) rfl (by first | (go_simp; done) | (go_simp; rfl)) rfl (fun _ h => h.elim) (fun b hb e => by subst e; simp at hb; omega) HR3.out HB3.out (by simp; omega) (by rw [tmsN_len]; omega) ?_; intro v1 w3 hO3 hB3 hg3 hat3; have HO4 := Aside0.mk hO3; have HB4 := Aside0.mk hB3; have HK4 := Aside0.mk (blk_grown HK3.out hg3 (Kd.R_ne HR3.out HK3.out (by decide))); have HA4 := Aside0.mk (blk_grown HA3.out hg3 (Kd.R_ne HR3.out HA3.out (by decide))); have HM4 := Aside0.mk (HM3.out.kept hg3 (fun e => HR3.out.1 _ e.symm rfl)); clear hO3 hB3 hg3 hat3) | fail)
      refine ⟨⟨j + 1, f, _, by go_num, HF2, ⟨HD.out.put HS.out HM.out.isMap HE.out⟩, HM4, ⟨?_⟩, HK4, ⟨HA4.out⟩, HB4⟩, by simp [intOf]; omega⟩
      rw [tmsN_snoc]
      exact HO4.out
def xCycle.f (a0_0 a0_1 a0_2 a0_3 a1_0 a1_1 a1_2 a1_3 : Int) : Option (Int × Int × Int) :=
  if (isKitB (v4 a0_0 a0_1 a0_2 a0_3) && isSandB (v4 a0_0 a0_1 a0_2 a0_3) (v4 a1_0 a1_1 a1_2 a1_3)) = true then
    (cycAt (v4 a0_0 a0_1 a0_2 a0_3) (v4 a1_0 a1_1 a1_2 a1_3) 4000 0).map fun p => (tmN (v4 a0_0 a0_1 a0_2 a0_3) (v4 a1_0 a1_1 a1_2 a1_3) p.1, wrap64 (tmN (v4 a0_0 a0_1 a0_2 a0_3) (v4 a1_0 a1_1 a1_2 a1_3) p.2 - tmN (v4 a0_0 a0_1 a0_2 a0_3) (v4 a1_0 a1_1 a1_2 a1_3) p.1), (p.2 : Int) - (p.1 : Int))
  else none
theorem xCycle.calls (a0_0 a0_1 a0_2 a0_3 a1_0 a1_1 a1_2 a1_3 : Int) (r1 r2 r3 : Int) (w : World) (h : xCycle.f a0_0 a0_1 a0_2 a0_3 a1_0 a1_1 a1_2 a1_3 = some (r1, r2, r3)) :
    Calls Try.prog 45 #[.agg #[.int .i64 a0_0, .int .i64 a0_1, .int .i64 a0_2, .int .i64 a0_3], .agg #[.int .i64 a1_0, .int .i64 a1_1, .int .i64 a1_2, .int .i64 a1_3]] w fun e w' => e = .returned (.tuple #[.int .i64 r1, .int .i64 r2, .int .i64 r3]) ∧ Below w.heap.size w w' := by
  unfold xCycle.f at h
  by_cases g : (isKitB (v4 a0_0 a0_1 a0_2 a0_3) && isSandB (v4 a0_0 a0_1 a0_2 a0_3) (v4 a1_0 a1_1 a1_2 a1_3)) = true
  · rw [if_pos g, Option.map_eq_some_iff] at h
    obtain ⟨⟨i, n⟩, h1, h2⟩ := h
    simp only [Prod.mk.injEq] at h2
    obtain ⟨rfl, rfl, rfl⟩ := h2
    exact cycle_any (v4 a0_0 a0_1 a0_2 a0_3) (v4 a1_0 a1_1 a1_2 a1_3) g i n h1 w
  · rw [if_neg g] at h; cases h
end Go.Proofs.Ytekbfekghheejaa
