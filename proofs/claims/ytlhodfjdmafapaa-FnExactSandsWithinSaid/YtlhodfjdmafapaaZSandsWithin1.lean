/- For all kits, sands and times SandsWithin of the program and of the reference answer alike; no condition. -/
import Derived.Test.YtlhodfjdmafapaaZSandsWithin0
import Derived.BigQuiet
import Derived.Sort.OwnSortedInts
import Derived.Test.YtlhodfjdmafapaaProg
import Derived.Below
import Derived.Deep.Draws
import Derived.Deep.AppendLies
import Derived.Maps.AppendAt
import Derived.OwnWalk
import Derived.Laws.BytesArg
import Derived.Laws.MakeOwn
import Derived.Laws.OwnMore
import Derived.Deep.OwnRows
import Derived.Tactics
import Derived.Lib.ConvBytes
import Derived.Laws.Slices
import Derived.WalkKit
import Derived.KernelRfl
import Derived.RowKit3
import Derived.Deep.LoopGhost
import Derived.Deep.QuietTactic
import Derived.WideLaws
import Derived.Deep.DeepCutAuto
import Derived.Deep.CutBlock
import Derived.Deep.RegionHeld3
import Derived.Laws.Rows
import Derived.Lib.AppendStr
import Derived.ArgAppend
import Derived.Laws.IdiomCopy
import Derived.OrdersHeld
import Derived.Laws.BitsLemmas
import Derived.RowKit
import Derived.Test.YtlhodfjdmafapaaWWords
import Derived.Test.YtlhodfjdmafapaaWLast
import Derived.Test.YtlhodfjdmafapaaWTab
import Derived.Test.YtlhodfjdmafapaaWQPut
import Derived.Test.YtlhodfjdmafapaaWApart
import Derived.Test.YtlhodfjdmafapaaWArr
import Derived.Test.YtlhodfjdmafapaaWZeros
import Derived.Test.YtlhodfjdmafapaaWFoot
import Derived.Test.YtlhodfjdmafapaaWKept
import Derived.Test.YtlhodfjdmafapaaWShare
import Derived.Test.YtlhodfjdmafapaaWN
import Derived.Test.YtlhodfjdmafapaaWFootNe
import Derived.Test.YtlhodfjdmafapaaWAt
import Derived.Laws.StructEq
import Derived.Test.YtlhodfjdmafapaaWRepsOne
import Derived.Test.YtlhodfjdmafapaaWInv
import Derived.Test.YtlhodfjdmafapaaWInvWords
import Derived.Test.YtlhodfjdmafapaaWNEv
import Derived.Test.YtlhodfjdmafapaaWMore
section
namespace Go.Proofs.Ytlhodfjdmafapaa
open Go.RowKit Go.Sort Go.Proofs.YtlhodfjdmafapaaW.PrintWords Go.Proofs.YtlhodfjdmafapaaW.PrintLast Go.Proofs.Ytlhodfjdmafapaa.QSn
set_option linter.unusedVariables false
set_option linter.unusedSimpArgs false
def cc (a b : Int) : Int := if a < b then -1 else if b < a then 1 else 0
/-- less than 0: x comes before y -/
def cmp4 (x y : Sd) : Int := if cc x.1 y.1 = 0 then (if cc x.2.1 y.2.1 = 0 then (if cc x.2.2.1 y.2.2.1 = 0 then cc x.2.2.2 y.2.2.2 else cc x.2.2.1 y.2.2.1) else cc x.2.1 y.2.1) else cc x.1 y.1
theorem cc_zero {a b : Int} : cc a b = 0 ↔ a = b := by
 unfold cc
 split
 ·constructor <;> intro h <;> omega
 ·split
  ·constructor <;> intro h <;> omega
  ·constructor <;> intro h <;> omega
theorem cc_neg {a b : Int} : cc a b < 0 ↔ a < b := by
 unfold cc
 split
 ·constructor <;> intro h <;> omega
 ·split
  ·constructor <;> intro h <;> omega
  ·constructor <;> intro h <;> omega
theorem cmp4_lt (x y : Sd) : decide (cmp4 x y < 0) = lt4 x y := by
 rw [Bool.eq_iff_iff, decide_eq_true_eq, lt4_iff]
 unfold cmp4
 split
 ·rename_i h0
  have h0 := cc_zero.1 h0
  split
  ·rename_i h1
   have h1 := cc_zero.1 h1
   split
   ·rename_i h2
    have h2 := cc_zero.1 h2
    rw [cc_neg]; omega
   ·rename_i h2
    have h2 : x.2.2.1 ≠ y.2.2.1 := fun e => h2 (cc_zero.2 e)
    rw [cc_neg]; omega
  ·rename_i h1
   have h1 : x.2.1 ≠ y.2.1 := fun e => h1 (cc_zero.2 e)
   rw [cc_neg]; omega
 ·rename_i h0
  have h0 : x.1 ≠ y.1 := fun e => h0 (cc_zero.2 e)
  rw [cc_neg]; omega
theorem ltOf4 (x y : Sd) : ltOf cmp4 x y = lt4 x y := by
 rw [← cmp4_lt]
 rfl
theorem swo4 : SWO (ltOf cmp4) where
 irrefl x := by rw [ltOf4]; simpa using lt4_irrefl x
 trans x y z h1 h2 := by rw [ltOf4] at *; exact lt4_trans h1 h2
 ntrans x y z h1 h2 := by
  rw [ltOf4] at *
  cases h : lt4 x z with
  | false => rfl
  | true =>
   rw [Bool.eq_false_iff, ne_eq, lt4_iff] at h1 h2
   rw [lt4_iff] at h
   omega
theorem tot4 (x y : Sd) (h1 : ltOf cmp4 x y = false) (h2 : ltOf cmp4 y x = false) : x = y := by
 rw [ltOf4] at h1 h2
 by_cases e : x = y
 ·exact e
 ·have := lt4_total (a := x) (b := y) (by rw [h1]; simp) e
  rw [h2] at this
  cases this
def lst4 (x : Sd) : List Int := [x.1, x.2.1, x.2.2.1, x.2.2.2]
theorem ccf (a b : Int) : cmp_Compare_int.f a b = some (cc a b) := by
 unfold cmp_Compare_int.f cmp_isNaN_int.f cc
 simp
 split <;> simp_all <;> split <;> simp_all <;> omega
theorem cmp_f (x y : Sd) : slices_Compare_int_int.f 6 (lst4 x) (lst4 y) = some (cmp4 x y) := by
 obtain ⟨x0, x1, x2, x3⟩ := x
 obtain ⟨y0, y1, y2, y3⟩ := y
 have w1 : wrap64 1 = 1 := by unfold wrap64; omega
 have w2 : wrap64 2 = 2 := by unfold wrap64; omega
 have w3 : wrap64 3 = 3 := by unfold wrap64; omega
 have w4 : wrap64 4 = 4 := by unfold wrap64; omega
 unfold slices_Compare_int_int.f lst4 cmp4
 simp [slices_Compare_int_int.l0, ccf, Go.Proofs.YtlhodfjdmafapaaW.PrintWords.rd, w1, w2, w3, w4]
 repeat' split
 all_goals simp_all
theorem reads_arr4 {W : World} {b : Nat} {x : Sd} (h : W.heap[b]? = some (.cells #[.int .i64 x.1, .int .i64 x.2.1, .int .i64 x.2.2.1, .int .i64 x.2.2.2] 22 (0, 0))) : Kd.C (Kd.int .i64) W (some ⟨b, 0, none⟩) (lst4 x).length (lst4 x) := by
 refine ⟨rfl, by simp [lst4], fun _ => ⟨_, rfl, fun j p hp => ⟨[.int .i64 p], rfl, rfl, fun i u hu => ?_⟩⟩⟩
 cases i with
 | succ i => simp at hu
 | zero =>
  obtain rfl := (Option.some.inj hu).symm
  have hj : j < 4 := by
   rcases Nat.lt_or_ge j 4 with q | q
   ·exact q
   ·rw [List.getElem?_eq_none (by simpa [lst4] using q)] at hp; cases hp
  obtain rfl | rfl | rfl | rfl : j = 0 ∨ j = 1 ∨ j = 2 ∨ j = 3 := by omega
  all_goals
   obtain rfl := (Option.some.inj hp).symm
   exact (blk_cell h _).trans rfl
theorem quiet_dr {P : Program} {f : FuncId} {args : Array Value} {w : World} {n : Nat} {v : Value} (h : Calls P f args (w.drewN n) fun e w' => e = .returned v ∧ Drawn0 (w.drewN n) w') : Calls P f args (w.drewN n) fun e w'' => e = .returned v ∧ ∃ m, w'' = w.drewN m :=
 h.mono fun _ _ ⟨he, hm⟩ => by
  obtain ⟨q, hq⟩ := hm.out
  exact ⟨he, n + q, by rw [hq, World.drewN_drewN]⟩
def encS (x : Sd) : List Value := [.int .i64 x.1, .int .i64 x.2.1, .int .i64 x.2.2.1, .int .i64 x.2.2.2]
set_option maxHeartbeats 1000000 in
theorem closure4 (x y : Sd) (W : World) : Calls Try.prog 68 #[.agg (encS x).toArray, .agg (encS y).toArray] W fun e w' => e = .returned (.int .i64 (cmp4 x y)) ∧ ∃ q os', w' = grow (W.drewN q) os' := by
 have hcon := fun W' (h1 : W'.heap[W.heap.size]? = some (.cells #[.int .i64 x.1, .int .i64 x.2.1, .int .i64 x.2.2.1, .int .i64 x.2.2.2] 22 (0, 0))) (h2 : W'.heap[W.heap.size + 1]? = some (.cells #[.int .i64 y.1, .int .i64 y.2.1, .int .i64 y.2.2.1, .int .i64 y.2.2.2] 22 (0, 0))) => slices_Compare_int_int.calls 6 (some ⟨W.heap.size, 0, none⟩) 4 (lst4 x) (some ⟨W.heap.size + 1, 0, none⟩) 4 (lst4 y) (cmp4 x y) W' (reads_arr4 h1) (Nat.le_refl _) (reads_arr4 h2) (Nat.le_refl _) (cmp_f x y)
 obtain ⟨r, hr⟩ : ∃ r, cmp4 x y = r := ⟨_, rfl⟩
 rw [hr] at hcon ⊢
 have HC := Aside0.mk hcon
 clear hcon hr
 unfold encS
 go_enter Try.func68, Try.ntmps68
 go_wp2_with fail
 have g1 := blk_alloc (heap_alloc_new W (.cells #[.int .i64 x.1, .int .i64 x.2.1, .int .i64 x.2.2.1, .int .i64 x.2.2.2] 22 (0, 0))) (.cells #[.int .i64 y.1, .int .i64 y.2.1, .int .i64 y.2.2.1, .int .i64 y.2.2.2] 22 (0, 0))
 have g2 : ((W.alloc (.cells #[.int .i64 x.1, .int .i64 x.2.1, .int .i64 x.2.2.1, .int .i64 x.2.2.2] 22 (0, 0))).alloc (.cells #[.int .i64 y.1, .int .i64 y.2.1, .int .i64 y.2.2.1, .int .i64 y.2.2.2] 22 (0, 0))).heap[W.heap.size + 1]? = some (.cells #[.int .i64 y.1, .int .i64 y.2.1, .int .i64 y.2.2.1, .int .i64 y.2.2.2] 22 (0, 0)) := by
  have := heap_alloc_new (W.alloc (.cells #[.int .i64 x.1, .int .i64 x.2.1, .int .i64 x.2.2.1, .int .i64 x.2.2.2] 22 (0, 0))) (.cells #[.int .i64 y.1, .int .i64 y.2.1, .int .i64 y.2.2.1, .int .i64 y.2.2.2] 22 (0, 0))
  simpa using this
 have G1 := Aside0.mk g1
 have G2 := Aside0.mk g2
 clear g1 g2
 go_quiet ((go_at_call 96; exact quiet_dr (HC.out _ (blk_drewN G1.out _) (blk_drewN G2.out _))))
 go_wp2_with fail
 go_ret
 exact ⟨rfl, nq, #[_, _], by rw [alloc_eq_grow, alloc_eq_grow, grow_grow]; rfl⟩
theorem cmpLays4 (blk off size : Nat) (w : World) : Go.Proofs.CmpLays Try.prog 68 #[] encS 4 cmp4 blk off size w :=
 fun _ _ _ _ x y => closure4 x y _
end Go.Proofs.Ytlhodfjdmafapaa
end
section
namespace Go.Proofs.Ytlhodfjdmafapaa
open Go.RowKit Go.Sort Go.Shelf Go.Lib Go.Proofs.YtlhodfjdmafapaaW.PrintWords Go.Proofs.YtlhodfjdmafapaaW.PrintLast
set_option linter.unusedVariables false
set_option linter.unusedSimpArgs false
theorem k4_openM {w : World} {base : Nat} {ok : Nat → Prop} {x : Sd} {cs : List Value} (h : k4.M w base ok x cs) : cs = encS x := by
 obtain ⟨_, _, rfl, rfl, ⟨_, _, rfl, rfl, ⟨_, _, rfl, rfl, rfl⟩⟩⟩ := h
 rfl
/-- the cells of a row of sands -/
def flt4 (l : List Sd) : List Value := (flatK encS 4 l.toArray).toList
theorem flt4_len (l : List Sd) : (flt4 l).length = l.length * 4 := by simp [flt4]
theorem flt4_get {l : List Sd} {j i : Nat} {x : Sd} (hx : l[j]? = some x) (hi : i < 4) : (flt4 l)[j * 4 + i]? = (encS x)[i]? := by
 have hj : j < l.length := by
  rcases Nat.lt_or_ge j l.length with q | q
  ·exact q
  ·rw [List.getElem?_eq_none q] at hx; cases hx
 have ht : j * 4 + i < l.toArray.size * 4 := by simp; omega
 have h := get_flatK encS 4 l.toArray (j * 4 + i) ht
 rw [show (j * 4 + i) / 4 = j by omega, show (j * 4 + i) % 4 = i by omega] at h
 have hl : l.toArray[j]! = x := by
  rw [getElem!_pos _ _ (by simpa using hj)]
  rw [List.getElem?_eq_getElem hj] at hx
  simpa using hx
 rw [hl] at h
 unfold flt4
 rw [Array.getElem?_toList, Array.getElem?_eq_getElem (by rw [size_flatK]; exact ht)]
 rw [getElem!_pos _ _ (by rw [size_flatK]; exact ht)] at h
 rw [h, List.getElem?_eq_getElem (show i < (encS x).length by simpa [encS] using hi)]
 rw [getElem!_pos (encS x) i (show i < (encS x).length by simpa [encS] using hi)]
theorem flt4_reps {R : Sd → List Value → Prop} (l : List Sd) (hR : ∀ x, R x (encS x)) : Reps R 4 l (flt4 l) := by
 refine ⟨flt4_len l, fun j p hp => ?_⟩
 have hj : j < l.length := by
  rcases Nat.lt_or_ge j l.length with q | q
  ·exact q
  ·rw [List.getElem?_eq_none q] at hp; cases hp
 have e : ((flt4 l).drop (j * 4)).take 4 = encS p := by
  refine List.ext_getElem? fun i => ?_
  rw [List.getElem?_take]
  by_cases hi : i < 4
  ·rw [if_pos hi, List.getElem?_drop, flt4_get hp hi]
  ·rw [if_neg hi, List.getElem?_eq_none (by simp [encS]; omega)]
 rw [e]
 exact hR p
theorem reps_flt4 {w : World} {base : Nat} {ok : Nat → Prop} {l : List Sd} {inner : List Value} (h : Reps (k4.M w base ok) 4 l inner) : inner = flt4 l := by
 refine List.ext_getElem? fun t => ?_
 by_cases ht : t < l.length * 4
 ·obtain ⟨x, hx⟩ : ∃ x, l[t / 4]? = some x := ⟨_, List.getElem?_eq_getElem (by omega)⟩
  have h1 := k4_openM (h.2 _ _ hx)
  have h2 := flt4_get (i := t % 4) hx (by omega)
  rw [show t / 4 * 4 + t % 4 = t by omega, ← h1, List.getElem?_take, if_pos (by omega), List.getElem?_drop, show t / 4 * 4 + t % 4 = t by omega] at h2
  exact h2.symm
 ·rw [List.getElem?_eq_none (by rw [h.1]; omega), List.getElem?_eq_none (by rw [flt4_len]; omega)]
theorem take_put4 (cur : Array Value) (l : List Sd) (h : l.length * 4 ≤ cur.size) : (putCells id 0 (flatK encS 4 l.toArray) cur).toList.take (l.length * 4) = flt4 l := by
 refine List.ext_getElem? fun j => ?_
 have hs : (flatK encS 4 l.toArray).size = l.length * 4 := by simp
 by_cases hj : j < l.length * 4
 ·rw [List.getElem?_take_of_lt hj, Array.getElem?_toList]
  unfold flt4
  rw [Array.getElem?_toList]
  have : j < (flatK encS 4 l.toArray).size := by omega
  simp [putCells, hj, show j < cur.size by omega, Array.getElem?_eq_getElem this, getElem!_pos (flatK encS 4 l.toArray) j this]
 ·rw [List.getElem?_take_eq_none (by omega), List.getElem?_eq_none (by rw [flt4_len]; omega)]
theorem holds4 {w : World} {g : Nat} {cur : Array Value} {e : TypeId} {l : List Sd} (hb : w.heap[g]? = some (.cells cur e (0, 0))) (ht : cur.toList.take (l.length * 4) = flt4 l) : HoldsK encS 4 w g 0 l.toArray := by
 intro j hj
 have hj' : j < l.length * 4 := by simpa using hj
 refine ⟨?_, by simp [World.frozen?, hb]⟩
 have h1 : (cur.toList.take (l.length * 4))[j]? = (flt4 l)[j]? := by rw [ht]
 rw [List.getElem?_take_of_lt hj'] at h1
 simp only [World.cell?, hb, Nat.zero_add]
 simp only [Option.isSome_none, Bool.false_eq_true, if_false]
 rw [← Array.getElem?_toList, h1]
 unfold flt4
 rw [Array.getElem?_toList, Array.getElem?_eq_getElem hj]
 simp only [id]
 rw [getElem!_pos (flatK encS 4 l.toArray) j hj]
theorem heap_sorted4 {w : World} {g n : Nat} {os : Array Obj} {cur : Array Value} {e : TypeId} {fr : Nat × Nat} (d : Array Sd) (hb : w.heap[g]? = some (.cells cur e fr)) :
  (sortWorldK encS 4 w g 0 n d os).heap[g]? = some (.cells (putCells id 0 (flatK encS 4 d) cur) e fr) := by
 have hg : g < w.heap.size := (Array.getElem?_eq_some_iff.1 hb).1
 unfold sortWorldK putRowK
 rw [heap_grow_old _ _ (by simpa [putRow, mapBlock, Sort.ahead] using hg)]
 simp [putRow, mapBlock, Sort.ahead, Array.getElem?_modify, hb, onCells]
theorem grownBy_sorted4 {w : World} {g n : Nat} {os : Array Obj} (d : Array Sd) : w.grownBy (sortWorldK encS 4 w g 0 n d os) (some g) := by
 unfold sortWorldK putRowK
 refine ⟨rfl, rfl, rfl, by simp [grow, putRow, mapBlock, Sort.ahead], fun k hk hne => ?_⟩
 rw [heap_grow_old _ _ (by simpa [putRow, mapBlock, Sort.ahead] using hk)]
 have : g ≠ k := fun e => hne (by rw [e])
 simp [putRow, mapBlock, Sort.ahead, Array.getElem?_modify, this]
/-- the sands in order -/
def sortL (l : List Sd) : List Sd := l.mergeSort fun x y => !(ltOf cmp4 y x)
theorem sortL_perm (l : List Sd) : (sortL l).Perm l := List.mergeSort_perm _ _
theorem sortL_srt {l : List Sd} (hn : l.Pairwise fun a b => a ≠ b) : Srt (sortL l) := by
 have hp : (sortL l).Pairwise fun a b => (!(ltOf cmp4 b a)) = true := List.pairwise_mergeSort (le := fun x y => !(ltOf cmp4 y x)) (fun a b c h1 h2 => by
  simp only [Bool.not_eq_true', ltOf4] at *
  cases h : lt4 c a with
  | false => rfl
  | true =>
   rw [Bool.eq_false_iff, ne_eq, lt4_iff] at h1 h2
   rw [lt4_iff] at h
   omega) (fun a b => by
  simp only [Bool.or_eq_true, Bool.not_eq_true', ltOf4]
  cases h : lt4 b a with
  | false => exact .inl rfl
  | true =>
   right
   cases h2 : lt4 a b with
   | false => rfl
   | true => exact absurd (lt4_trans h h2) (lt4_irrefl _)) l
 have hn2 : (sortL l).Pairwise fun a b => a ≠ b := (sortL_perm l).symm.pairwise hn (fun h => h.symm)
 refine (hp.and hn2).imp ?_
 rintro a b ⟨h1, h2⟩
 rw [ltOf4, Bool.not_eq_true'] at h1
 exact lt4_total (by rw [h1]; simp) h2.symm
theorem sort_c {w : World} {base g cp : Nat} {l : List Sd} (hl0 : 0 < l.length) (hl : l.length ≤ 1000000) (hR : k4.R 22 w base (fun _ => True) (.slice (some ⟨g, 0, none⟩) l.length cp) l) : Calls Try.prog 67 #[.slice (some ⟨g, 0, none⟩) l.length cp, .func (.func 68) #[] #[]] w fun e w' => e = .returned (.tuple #[]) ∧ k4.R 22 w' base (fun _ => True) (.slice (some ⟨g, 0, none⟩) l.length cp) (sortL l) ∧ w.grownBy w' (some g) := by
 have eg : ∀ args w, (callFunc 68 args).run Try.prog w = .ok (.enter 68 args) w := enters_of Try.func68 (by kernel_rfl) rfl
 have hlt : g < w.heap.size := Kd.R_lt hR g rfl
 obtain ⟨hok, inner, hown, hreps⟩ := hR
 obtain rfl := reps_flt4 hreps
 obtain ⟨_, h⟩ := hown
 rcases h with ⟨h, _⟩ | ⟨g', cap, cur, e1, e2, e3, e4, e5, e6, e7⟩
 ·cases h
 cases e1
 have hS := Try.slices_SortFunc_total 4 Try.isAgg22 Try.sizeOf22 encS (fun _ => rfl) (fun x v hv => by simp [encS] at hv; rcases hv with rfl | rfl | rfl | rfl <;> rfl) cmp4 swo4 68 #[] g 0 cp l.toArray w eg (cmpLays4 _ _ _ _) (holds4 e3 e7) hlt (by simp; omega) tot4
 rw [List.size_toArray] at hS
 refine hS.mono ?_
 rintro e w' ⟨rfl, n, os, rfl⟩
 have hlen : (sortL l).length = l.length := (sortL_perm l).length_eq
 refine ⟨rfl, ?_, grownBy_sorted4 _⟩
 rw [show Value.slice (some ⟨g, 0, none⟩) l.length cp = Value.slice (some ⟨g, 0, none⟩) (sortL l).length cp by rw [hlen]]
 refine ⟨fun _ _ => trivial, flt4 (sortL l), ⟨?_, .inr ⟨g, cp, _, rfl, e2, heap_sorted4 _ e3, by rw [hlen]; exact e4, e5, ?_, ?_⟩⟩, flt4_reps _ fun x => k4_mkM _ _ _ x⟩
 ·rw [flt4_len]; rfl
 ·simpa [putCells] using e6
 ·exact take_put4 cur (sortL l) (by
   rw [hlen, e6]
   exact Nat.mul_le_mul_right 4 e4)
end Go.Proofs.Ytlhodfjdmafapaa
end
section
namespace Go.Proofs.Ytlhodfjdmafapaa
open Go.RowKit
set_option linter.unusedVariables false
set_option linter.unusedSimpArgs false
/-- all sands within n steps are found; of the first f all steps are looked at -/
structure BInv (k : Nat → Int) (s : Sd) (n : Nat) (out : List Sd) (f : Nat) : Prop where
 nd : out.Pairwise fun a b => a ≠ b
 mem : ∀ x, x ∈ out ↔ WIn k s n x
 closed : ∀ x ∈ out.take f, ∀ set ∈ setsL k, 0 < goD k x set → goS k x set ∈ out
 le : f ≤ out.length
theorem BInv.start (k : Nat → Int) (s : Sd) : BInv k s 0 [s] 0 := ⟨List.pairwise_singleton _ _, fun x => by simp [WIn], fun x hx => by simp at hx, by simp⟩
/-- a round under way: of the first f all steps are looked at, of the next one the first j -/
structure BRun (k : Nat → Int) (out0 out : List Sd) (f j : Nat) : Prop where
 pre : out.take out0.length = out0
 nd : out.Pairwise fun a b => a ≠ b
 mem : ∀ x, x ∈ out ↔ x ∈ out0 ∨ SucB k (fun y => y ∈ out0.take f) x ∨ ∃ y, out0[f]? = some y ∧ ∃ set ∈ (setsL k).take j, 0 < goD k y set ∧ x = goS k y set
theorem BRun.start {k : Nat → Int} {s : Sd} {n : Nat} {out : List Sd} {f : Nat} (h : BInv k s n out f) : BRun k out out f 0 := ⟨List.take_length, h.nd, fun x => by
 constructor
 ·exact .inl
 ·rintro (c | ⟨y, c1, set, c2, c3, rfl⟩ | ⟨y, _, set, c2, _⟩)
  ·exact c
  ·exact h.closed y c1 set c2 c3
  ·simp at c2⟩
theorem take_memS {l : List Int} {j : Nat} {x y : Int} (hy : l[j]? = some y) : x ∈ l.take (j + 1) ↔ x ∈ l.take j ∨ x = y := by
 rw [List.take_add_one, hy]
 simp
theorem BRun.skip {k : Nat → Int} {out0 out : List Sd} {f j : Nat} (h : BRun k out0 out f j) {y : Sd} (hy : out0[f]? = some y) {set : Int} (hs : (setsL k)[j]? = some set) (hn : ¬ (0 < goD k y set ∧ goS k y set ∉ out)) : BRun k out0 out f (j + 1) := ⟨h.pre, h.nd, fun x => by
 constructor
 ·intro hx
  rcases (h.mem x).1 hx with c | c | ⟨z, c1, st, c2, c3⟩
  ·exact .inl c
  ·exact .inr (.inl c)
  ·exact .inr (.inr ⟨z, c1, st, (take_memS hs).2 (.inl c2), c3⟩)
 ·rintro (c | c | ⟨z, c1, st, c2, c3, c4⟩)
  ·exact (h.mem x).2 (.inl c)
  ·exact (h.mem x).2 (.inr (.inl c))
  ·rcases (take_memS hs).1 c2 with c2 | rfl
   ·exact (h.mem x).2 (.inr (.inr ⟨z, c1, st, c2, c3, c4⟩))
   ·rw [hy] at c1
    obtain rfl := Option.some.inj c1
    rw [c4]
    exact Classical.byContradiction fun q => hn ⟨c3, q⟩⟩
theorem BRun.add {k : Nat → Int} {out0 out : List Sd} {f j : Nat} (h : BRun k out0 out f j) {y : Sd} (hy : out0[f]? = some y) {set : Int} (hs : (setsL k)[j]? = some set) (h1 : 0 < goD k y set) (h2 : goS k y set ∉ out) : BRun k out0 (out ++ [goS k y set]) f (j + 1) := ⟨by
 have hl : out0.length ≤ out.length := by
  have := congrArg List.length h.pre
  rw [List.length_take] at this
  omega
 rw [List.take_append_of_le_length hl]
 exact h.pre, by
 rw [List.pairwise_append]
 exact ⟨h.nd, List.pairwise_singleton _ _, fun a ha b hb e => h2 (by rw [List.mem_singleton.1 hb] at e; rw [← e]; exact ha)⟩, fun x => by
 rw [List.mem_append, List.mem_singleton]
 constructor
 ·rintro (hx | rfl)
  ·rcases (h.mem x).1 hx with c | c | ⟨z, c1, st, c2, c3⟩
   ·exact .inl c
   ·exact .inr (.inl c)
   ·exact .inr (.inr ⟨z, c1, st, (take_memS hs).2 (.inl c2), c3⟩)
  ·exact .inr (.inr ⟨y, hy, set, (take_memS hs).2 (.inr rfl), h1, rfl⟩)
 ·rintro (c | c | ⟨z, c1, st, c2, c3, c4⟩)
  ·exact .inl ((h.mem x).2 (.inl c))
  ·exact .inl ((h.mem x).2 (.inr (.inl c)))
  ·rcases (take_memS hs).1 c2 with c2 | rfl
   ·exact .inl ((h.mem x).2 (.inr (.inr ⟨z, c1, st, c2, c3, c4⟩)))
   ·rw [hy] at c1
    obtain rfl := Option.some.inj c1
    exact .inr c4⟩
theorem BRun.turn {k : Nat → Int} {out0 out : List Sd} {f : Nat} (h : BRun k out0 out f (setsL k).length) {y : Sd} (hy : out0[f]? = some y) : BRun k out0 out (f + 1) 0 := ⟨h.pre, h.nd, fun x => by
 have hm := h.mem x
 rw [List.take_length] at hm
 rw [hm]
 constructor
 ·rintro (c | ⟨z, c1, c2⟩ | ⟨z, c1, st, c2, c3⟩)
  ·exact .inl c
  ·exact .inr (.inl ⟨z, (take_mem hy).2 (.inl c1), c2⟩)
  ·rw [hy] at c1
   obtain rfl := Option.some.inj c1
   exact .inr (.inl ⟨_, (take_mem hy).2 (.inr rfl), st, c2, c3⟩)
 ·rintro (c | ⟨z, c1, c2⟩ | ⟨z, c1, st, c2, c3⟩)
  ·exact .inl c
  ·rcases (take_mem hy).1 c1 with c1 | rfl
   ·exact .inr (.inl ⟨z, c1, c2⟩)
   ·exact .inr (.inr ⟨z, hy, c2⟩)
  ·simp at c2⟩
theorem BRun.done {k : Nat → Int} {s : Sd} {n : Nat} {out0 out : List Sd} {f : Nat} (h : BRun k out0 out out0.length 0) (h0 : BInv k s n out0 f) : BInv k s (n + 1) out out0.length := by
 have hm : ∀ x, x ∈ out ↔ x ∈ out0 ∨ SucB k (fun y => y ∈ out0) x := fun x => by
  rw [h.mem x, List.take_length]
  constructor
  ·rintro (c | c | ⟨z, c1, st, c2, _⟩)
   ·exact .inl c
   ·exact .inr c
   ·simp at c2
  ·rintro (c | c)
   ·exact .inl c
   ·exact .inr (.inl c)
 refine ⟨h.nd, fun x => ?_, fun x hx st h1 h2 => ?_, ?_⟩
 ·rw [hm x]
  show _ ↔ WIn k s n x ∨ SucB k (WIn k s n) x
  rw [h0.mem x]
  constructor
  ·rintro (c | c)
   ·exact .inl c
   ·exact .inr (c.mono fun y hy => (h0.mem y).1 hy)
  ·rintro (c | c)
   ·exact .inl c
   ·exact .inr (c.mono fun y hy => (h0.mem y).2 hy)
 ·rw [h.pre] at hx
  exact (hm _).2 (.inr ⟨x, hx, st, h1, h2, rfl⟩)
 ·have := congrArg List.length h.pre
  rw [List.length_take] at this
  omega
theorem BRun.len {k : Nat → Int} {out0 out : List Sd} {f j : Nat} (h : BRun k out0 out f j) : out0.length ≤ out.length := by
 have := congrArg List.length h.pre
 rw [List.length_take] at this
 omega
theorem BRun.at {k : Nat → Int} {out0 out : List Sd} {f j i : Nat} (h : BRun k out0 out f j) (hi : i < out0.length) : out[i]? = out0[i]? := by
 have h1 : (out.take out0.length)[i]? = out0[i]? := by rw [h.pre]
 rw [List.getElem?_take, if_pos hi] at h1
 exact h1
theorem BRun.sand {k : Nat → Int} {out0 out : List Sd} {f j : Nat} (h : BRun k out0 out f j) (hs : ∀ x ∈ out0, Sand k (fn4 x)) : ∀ x ∈ out, Sand k (fn4 x) := fun x hx => by
 rcases (h.mem x).1 hx with c | c | ⟨y, c1, set, c2, c3, rfl⟩
 ·exact hs x c
 ·exact c.sand (fun y hy => hs y (List.mem_of_mem_take hy))
 ·exact sand_tup ((hs y (List.mem_of_getElem? c1)).step set)
end Go.Proofs.Ytlhodfjdmafapaa
end
section
namespace Go.Proofs.Ytlhodfjdmafapaa
open Go.RowKit Go.Maps Go.Proofs.YtlhodfjdmafapaaW.PrintWords Go.Proofs.YtlhodfjdmafapaaW.PrintLast Go.Proofs.YtlhodfjdmafapaaW.PrintMore
set_option linter.unusedVariables false
set_option linter.unusedSimpArgs false
def MM : MapKd Try.prog 22 Sd Int := mk4 (Value.int .i64) (fun a b e => by injection e)
theorem QL.start (w : World) (b base n : Nat) (ok : Nat → Prop) {v : Value} {s : Sd} {L : List (Int × Value)} (h : mkT.own w b n L) (hL : L = [(0, v)]) (hr : k4.R 22 w base ok v [s]) : QL mkT k4 22 w b base ok n (updQ (fun _ => []) 0 [s]) L := by
 subst hL
 refine ⟨h, fun p hp => ?_, fun x hx => ?_, List.pairwise_singleton _ _⟩
 ·rw [List.mem_singleton.1 hp]
  show k4.R _ _ _ _ v (updQ _ 0 _ 0)
  rw [updQ_same]; exact hr
 ·rw [getA_cons] at hx
  split at hx
  ·cases hx
  ·rename_i c
   exact updQ_ne _ _ (fun e => c (by simp [e]))
/-- what all loops keep -/
structure MBase (k : Nat → Int) (w : World) (n1 : Nat) (sv : Value) (M : List (Sd × Int)) (wr : World) : Prop where
 out : MM.own wr (w.heap.size + 1) M.length M
 kit : wr.heap[w.heap.size]? = some (.cells #[.int .i64 (k 0), .int .i64 (k 1), .int .i64 (k 2), .int .i64 (k 3)] 27 (0, 0))
 sets : (Kd.int .i64).R 3 wr n1 (fun _ => True) sv (setsL k)
 below : Below w.heap.size w wr
section
variable {k : Nat → Int} {w wr w' : World} {n1 : Nat} {sv : Value} {M : List (Sd × Int)}
theorem MBase.step (h : MBase k w n1 sv M wr) (hb : Below wr.heap.size wr w') : MBase k w n1 sv M w' :=
 ⟨MapKd.own_below h.out hb, blk_below h.kit hb, Kd.R_below h.sets hb, below_chain h.below hb⟩
theorem MBase.mp (h : MBase k w n1 sv M wr) {g : Nat} (hg : wr.grownBy w' (some g)) (hm : ∃ es c, wr.heap[g]? = some (.map es c)) (hne : w.heap.size + 1 < g) : MBase k w n1 sv M w' := by
 obtain ⟨es, c, hm⟩ := hm
 refine ⟨MapKd.own_kept h.out hg (fun e => by have := Option.some.inj e; omega), blk_grown h.kit hg (fun e => by have := Option.some.inj e; omega), Kd.R_grown2 h.sets rfl hg (fun q hq e => ?_), h.below.grown hg h.below.size (fun q hq => by have := Option.some.inj hq; omega)⟩
 have e1 : q = g := (Option.some.inj hq).symm
 obtain ⟨cells, hc⟩ := Kd.R_typed h.sets q e.symm
 rw [e1, hm] at hc; cases hc
theorem MBase.put (h : MBase k w n1 sv M wr) {x : Sd} {t : Int} (ho : MM.own w' (w.heap.size + 1) (M.length + 1) (putA M x t)) (hg : wr.grownBy w' (some (w.heap.size + 1))) : MBase k w n1 sv (putA M x t) w' := by
 obtain ⟨es, c, hm⟩ := MapKd.own_is h.out
 refine ⟨MapKd.own_tight ho, blk_grown h.kit hg (fun e => by have := Option.some.inj e; omega), Kd.R_grown2 h.sets rfl hg (fun q hq e => ?_), h.below.grown hg h.below.size (fun q hq => by have := Option.some.inj hq; omega)⟩
 have e1 : q = w.heap.size + 1 := (Option.some.inj hq).symm
 obtain ⟨cells, hc⟩ := Kd.R_typed h.sets q e.symm
 rw [e1, hm] at hc; cases hc
end
attribute [local go_sem] max2_int max_two
end Go.Proofs.Ytlhodfjdmafapaa
end
section
namespace Go.Proofs.Ytlhodfjdmafapaa
open Go.RowKit Go.Maps Go.Proofs.YtlhodfjdmafapaaW.PrintWords Go.Proofs.YtlhodfjdmafapaaW.PrintLast
set_option linter.unusedVariables false
set_option linter.unusedSimpArgs false
def MB : MapKd Try.prog 22 Sd Bool := mk4 Value.bool (fun a b e => by injection e)
theorem zeroB (w : World) : (zeroValue 4).run Try.prog w = .ok (.bool false) w := by kernel_rfl
theorem own_atB {w : World} {b : Nat} (h : w.heap.size = b) : MB.own (w.alloc (.map #[] 0)) b 0 [] := h ▸ MapKd.own_made MB w
theorem WIn.selfI (k : Nat → Int) (s : Sd) : ∀ n, WIn k s n s
 | 0 => rfl
 | n + 1 => .inl (WIn.selfI k s n)
theorem MapKd.own_drew {P : Program} {k : TypeId} {α β : Type} {M : MapKd P k α β} {w : World} {b n : Nat} {L : List (α × β)} (h : M.own w b n L) : M.own w.drew b n L := MapKd.own_same h rfl
theorem put_run {w : World} {b n : Nat} {L : List (Sd × Bool)} (hown : MB.own w b n L) (hn : n < maxLen) {x : Sd} (hgd : good4 x) : ∃ w' : World, (Instr.mapUpdate 75 (.map (some b)) (.agg #[.int .i64 x.1, .int .i64 x.2.1, .int .i64 x.2.2.1, .int .i64 x.2.2.2]) (.bool true)).run Try.prog w = .ok () w' ∧ MB.own w' b (n + 1) (putA L x true) ∧ w.grownBy w' (some b) ∧ w.heap.size = w'.heap.size := by
 obtain ⟨D, h1, h2⟩ := hown
 obtain ⟨w', hrun, r1, r2⟩ := h1.store MB.law (t := 75) Try.underlying75 hn (MB.key x hgd) (show rdV (MB.eV true) = some (.held (MB.eV true), []) from rfl)
 refine ⟨w', hrun, ⟨_, r1, h2.put hgd true⟩, r2.grown, ?_⟩
 obtain ⟨_, _, es', c', _, rfl⟩ := r2
 simp [ChangeMaps.setBlock]
/-- the sands of a list are marked as seen -/
def SeenB (w : World) (b : Nat) (out : List Sd) : Prop := ∃ L : List (Sd × Bool), MB.own w b L.length L ∧ (∀ x, (getA L x).getD false = decide (x ∈ out)) ∧ ∀ p ∈ L, p.2 = true
theorem SeenB.start {w : World} {b : Nat} {s : Sd} (h : MB.own w b 1 [(s, true)]) : SeenB w b [s] := ⟨[(s, true)], h, fun x => by
 by_cases e : x = s
 ·subst e
  simp [getA]
 ·simp [getA, e, Ne.symm e], fun p hp => by rw [List.mem_singleton.1 hp]⟩
theorem SeenB.below {w w' : World} {b : Nat} {out : List Sd} (h : SeenB w b out) (hb : Below w.heap.size w w') : SeenB w' b out := let ⟨L, h1, h2⟩ := h; ⟨L, MapKd.own_below h1 hb, h2⟩
theorem SeenB.is {w : World} {b : Nat} {out : List Sd} (h : SeenB w b out) : ∃ es c, w.heap[b]? = some (.map es c) := let ⟨_, h1, _⟩ := h; MapKd.own_is h1
theorem SeenB.kept {w w' : World} {b : Nat} {out : List Sd} {u : Value} (h : SeenB w b out) (hg : w.grownBy w' u.ownBlock) {e' : TypeId} (hty : ∀ j, u.ownBlock = some j → ∃ cells, w.heap[j]? = some (.cells cells e' (0, 0))) : SeenB w' b out := by
 obtain ⟨L, h1, h2⟩ := h
 refine ⟨L, MapKd.own_kept h1 hg (fun e1 => ?_), h2⟩
 obtain ⟨cells, hc⟩ := hty b e1.symm
 obtain ⟨es, c, hm⟩ := MapKd.own_is h1
 rw [hc] at hm; cases hm
theorem SeenB.put {w' : World} {b n : Nat} {L : List (Sd × Bool)} {out : List Sd} (h2 : ∀ x, (getA L x).getD false = decide (x ∈ out)) (h3 : ∀ p ∈ L, p.2 = true) {s : Sd} (ho : MB.own w' b n (putA L s true)) : SeenB w' b (out ++ [s]) := ⟨_, MapKd.own_tight ho, fun x => by
 rw [getA_put]
 by_cases e : x = s
 ·rw [if_pos e, e]
  simp
 ·rw [if_neg e, h2 x]
  simp [e], fun p hp => by
 rcases List.mem_cons.1 hp with rfl | hp
 ·rfl
 ·exact h3 p (List.mem_filter.1 hp).1⟩
theorem SeenB.look {w : World} {b : Nat} {out : List Sd} (h : SeenB w b out) {x0 x1 x2 x3 : Int} (hg : good4 (x0, x1, x2, x3)) : (Instr.lookup 75 (.map (some b)) (.agg #[.int .i64 x0, .int .i64 x1, .int .i64 x2, .int .i64 x3]) false).run Try.prog w = .ok (.bool (decide (((x0, x1, x2, x3) : Sd) ∈ out))) w := by
 obtain ⟨L, h1, h2, _⟩ := h
 have := look_own1 (M := MB) h1 Try.underlying75 zeroB hg w (Below.refl _ _)
 rw [h2] at this
 exact this
theorem cell_grown {w w' : World} {a : Addr} {v : Value} {row : Option Nat} (h : w.cell? a = some v) (hg : w.grownBy w' row) (hne : some a.block ≠ row) : w'.cell? a = some v := by
 have hlt : a.block < w.heap.size := by
  rcases Nat.lt_or_ge a.block w.heap.size with q | q
  ·exact q
  ·unfold World.cell? at h
   rw [Array.getElem?_eq_none q] at h
   cases h
 unfold World.cell? at h ⊢
 rw [hg.block _ hlt hne]
 exact h
theorem cell_map {w : World} {a : Addr} {v : Value} {b : Nat} (h : w.cell? a = some v) (hm : ∃ es c, w.heap[b]? = some (.map es c)) : a.block ≠ b := fun e => by
 obtain ⟨es, c, hm⟩ := hm
 unfold World.cell? at h
 rw [e, hm] at h
 simp at h
set_option maxRecDepth 100000 in
set_option maxHeartbeats 16000000 in
theorem sandsI_c (k : Nat → Int) (s0 s1 s2 s3 : Int) (T : Nat) (hT : T ≤ 3) (hk : isKitB k = true) (hs : isSandB k (fn4 (s0, s1, s2, s3)) = true) (w : World) : Calls Try.prog 32 #[A4 k, .agg #[.int .i64 s0, .int .i64 s1, .int .i64 s2, .int .i64 s3], .int .i64 (T : Int)] w fun e w' => ∃ v0 : Value, e = .returned (.tuple #[v0, .bool true]) ∧ k4.R 22 w' w.heap.size (fun _ => True) v0 (sandsL k (s0, s1, s2, s3) T) ∧ Below w.heap.size w w' := by
 have hmm := @run_makeMap Try.prog
 have HKD := Aside0.mk (kit_bounds hk)
 have HSD := Aside0.mk (sand_of hk hs)
 have HG := Aside0.mk (sand_good (sand_of hk hs))
 have HS0 := Aside0.mk (show (isKitB k && isSandB k (fn4 (s0, s1, s2, s3))) = true by rw [hk, hs]; rfl)
 clear hk hs
 go_enter Try.func32, Try.ntmps32
 go_wp2_with fail
 have HBb := Aside0.mk (show Below w.heap.size w ((w.alloc (.cells #[.int .i64 (k 0), .int .i64 (k 1), .int .i64 (k 2), .int .i64 (k 3)] 27 (0, 0))).alloc (.cells #[.int .i64 s0, .int .i64 s1, .int .i64 s2, .int .i64 s3] 22 (0, 0))) from below_alloc (below_alloc (Below.refl _ _) _) _)
 have HKb := Aside0.mk (blk_alloc (heap_alloc_new w (.cells #[.int .i64 (k 0), .int .i64 (k 1), .int .i64 (k 2), .int .i64 (k 3)] 27 (0, 0))) (.cells #[.int .i64 s0, .int .i64 s1, .int .i64 s2, .int .i64 s3] 22 (0, 0)))
 have HSb := Aside0.mk (show ((w.alloc (.cells #[.int .i64 (k 0), .int .i64 (k 1), .int .i64 (k 2), .int .i64 (k 3)] 27 (0, 0))).alloc (.cells #[.int .i64 s0, .int .i64 s1, .int .i64 s2, .int .i64 s3] 22 (0, 0))).heap[w.heap.size + 1]? = some (.cells #[.int .i64 s0, .int .i64 s1, .int .i64 s2, .int .i64 s3] 22 (0, 0)) by
  have := heap_alloc_new (w.alloc (.cells #[.int .i64 (k 0), .int .i64 (k 1), .int .i64 (k 2), .int .i64 (k 3)] 27 (0, 0))) (.cells #[.int .i64 s0, .int .i64 s1, .int .i64 s2, .int .i64 s3] 22 (0, 0))
  simpa using this)
 have HZ := Aside0.mk (show w.heap.size + 1 < ((w.alloc (.cells #[.int .i64 (k 0), .int .i64 (k 1), .int .i64 (k 2), .int .i64 (k 3)] 27 (0, 0))).alloc (.cells #[.int .i64 s0, .int .i64 s1, .int .i64 s2, .int .i64 s3] 22 (0, 0))).heap.size by simp)
 generalize ((w.alloc (.cells #[.int .i64 (k 0), .int .i64 (k 1), .int .i64 (k 2), .int .i64 (k 3)] 27 (0, 0))).alloc (.cells #[.int .i64 s0, .int .i64 s1, .int .i64 s2, .int .i64 s3] 22 (0, 0))) = wb at HBb HKb HSb HZ ⊢
 have hc1 := areSand_any k (fn4 (s0, s1, s2, s3))
 rw [HS0.out] at hc1
 refine (hc1 _).mono ?_
 rintro e w1 ⟨rfl, hb⟩
 have HB1 := Aside0.mk hb
 clear hb hc1
 go_wp2_with fail
 have hc2 := within_any (T : Int) 0 3
 rw [show inB 0 3 (T : Int) = true from inB_iff.2 ⟨by omega, by omega⟩] at hc2
 refine (hc2 _).mono ?_
 rintro e w2 ⟨rfl, rfl⟩
 clear hc2
 have HS1 := Aside0.mk (blk_below HSb.out HB1.out)
 have r0 : w1.cell? ⟨w.heap.size + 1, 0, none⟩ = some (.int .i64 s0) := (blk_cell HS1.out 0).trans rfl
 have r1 : w1.cell? ⟨w.heap.size + 1, 1, none⟩ = some (.int .i64 s1) := (blk_cell HS1.out 1).trans rfl
 have r2 : w1.cell? ⟨w.heap.size + 1, 2, none⟩ = some (.int .i64 s2) := (blk_cell HS1.out 2).trans rfl
 have r3 : w1.cell? ⟨w.heap.size + 1, 3, none⟩ = some (.int .i64 s3) := (blk_cell HS1.out 3).trans rfl
 have l1 : w.heap.size + 1 < w1.heap.size := blk_lt HS1.out
 have l2 : w.heap.size < w1.heap.size := by omega
 have MK0 := Aside0.mk (show ∀ W' : World, Below w1.heap.size w1 W' → W'.cell? ⟨(w.heap.size + 1), 0, none⟩ = some (.int .i64 s0) ∧ W'.cell? ⟨(w.heap.size + 1), 1, none⟩ = some (.int .i64 s1) ∧ W'.cell? ⟨(w.heap.size + 1), 2, none⟩ = some (.int .i64 s2) ∧ W'.cell? ⟨(w.heap.size + 1), 3, none⟩ = some (.int .i64 s3) from fun W' hb => ⟨keep_below hb r0, keep_below hb r1, keep_below hb r2, keep_below hb r3⟩)
 go_wp2_with fail
 go_cut [8, 9] (fun v8 v9 wx => ∃ gs b : Nat, v8 = .slice (some ⟨gs, 0, none⟩) 1 1 ∧ v9 = .map (some b) ∧ Aside0 (wx.heap[gs]? = some (.cells #[.int .i64 s0, .int .i64 s1, .int .i64 s2, .int .i64 s3] 22 (0, 0))) ∧ Aside0 (w1.heap.size ≤ gs ∧ w1.heap.size ≤ b) ∧ Aside0 (MB.own wx b 1 [((s0, s1, s2, s3), true)]) ∧ Aside0 (Below w1.heap.size w1 wx))
 case first =>
  obtain ⟨wA, hA, oA, gA, zA⟩ := put_run (MapKd.own_drew (own_atB (w := w1.alloc (.cells #[.int .i64 s0, .int .i64 s1, .int .i64 s2, .int .i64 s3] 22 (0, 0))) (b := w1.heap.size + 1) (by simp))) (by unfold maxLen; omega) HG.out
  obtain ⟨wC, hC, oC, gC, zC⟩ := put_run (MapKd.own_drew (MapKd.own_alloc (own_atB (w := w1) (b := w1.heap.size) rfl) (.cells #[.int .i64 s0, .int .i64 s1, .int .i64 s2, .int .i64 s3] 22 (0, 0)))) (by unfold maxLen; omega) HG.out
  obtain ⟨wB, hB, oB, gB, zB⟩ := put_run (MapKd.own_drew (own_atB (w := w1) (b := w1.heap.size) rfl)) (by unfold maxLen; omega) HG.out
  have QA := Aside0.mk (show Below w1.heap.size w1 wA from Below.grown (by ((repeat first | (with_reducible assumption) | (with_reducible exact Below.refl _ _) | ((with_reducible refine bl_alloc _ ?_ ?_); focus (first | (simp; done) | (simp; omega) | omega | (with_reducible exact below_size (by with_reducible assumption)))) | ((with_reducible refine bl_set _ ?_ ?_); focus (first | (simp; done) | (simp; omega) | omega | (with_reducible exact below_size (by with_reducible assumption)))) | (with_reducible refine Below.drew ?_) | (with_reducible refine bl_drewN _ ?_)); done)) gA (by first | (simp; done) | (simp; omega)) (fun q hq => by have := Option.some.inj hq; omega))
  have QB := Aside0.mk (show Below w1.heap.size w1 wB from Below.grown (by ((repeat first | (with_reducible assumption) | (with_reducible exact Below.refl _ _) | ((with_reducible refine bl_alloc _ ?_ ?_); focus (first | (simp; done) | (simp; omega) | omega | (with_reducible exact below_size (by with_reducible assumption)))) | ((with_reducible refine bl_set _ ?_ ?_); focus (first | (simp; done) | (simp; omega) | omega | (with_reducible exact below_size (by with_reducible assumption)))) | (with_reducible refine Below.drew ?_) | (with_reducible refine bl_drewN _ ?_)); done)) gB (by first | (simp; done) | (simp; omega)) (fun q hq => by have := Option.some.inj hq; omega))
  have QC := Aside0.mk (show Below w1.heap.size w1 wC from Below.grown (by ((repeat first | (with_reducible assumption) | (with_reducible exact Below.refl _ _) | ((with_reducible refine bl_alloc _ ?_ ?_); focus (first | (simp; done) | (simp; omega) | omega | (with_reducible exact below_size (by with_reducible assumption)))) | ((with_reducible refine bl_set _ ?_ ?_); focus (first | (simp; done) | (simp; omega) | omega | (with_reducible exact below_size (by with_reducible assumption)))) | (with_reducible refine Below.drew ?_) | (with_reducible refine bl_drewN _ ?_)); done)) gC (by first | (simp; done) | (simp; omega)) (fun q hq => by have := Option.some.inj hq; omega))
  obtain ⟨z0, z1, z2, z3⟩ := MK0.out wA QA.out
  obtain ⟨z4, z5, z6, z7⟩ := MK0.out wB QB.out
  obtain ⟨z8, z9, z10, z11⟩ := MK0.out wC QC.out
  have OA := Aside0.mk oA
  have OB := Aside0.mk oB
  have OC := Aside0.mk oC
  have XA := Aside0.mk (show wA.heap[w1.heap.size]? = some (.cells #[.int .i64 s0, .int .i64 s1, .int .i64 s2, .int .i64 s3] 22 (0, 0)) from blk_grown (blk_drew (blk_alloc (heap_alloc_new _ _) _)) gA (by simp))
  have XC := Aside0.mk (show wC.heap[w1.heap.size + 1]? = some (.cells #[.int .i64 s0, .int .i64 s1, .int .i64 s2, .int .i64 s3] 22 (0, 0)) from blk_grown (blk_drew (by have := heap_alloc_new (w1.alloc (.map #[] 0)) (.cells #[.int .i64 s0, .int .i64 s1, .int .i64 s2, .int .i64 s3] 22 (0, 0)); simpa using this)) gC (by simp))
  have ZB := Aside0.mk zB
  clear oA oB oC gA gB gC zA zB zC
  go_region_law (fail)
  all_goals
   go_wp2_with fail
   go_meet
   first
    | exact ⟨_, _, rfl, rfl, XA, ⟨by omega, by omega⟩, OA, QA⟩
    | exact ⟨_, _, rfl, rfl, XC, ⟨by omega, by omega⟩, OC, QC⟩
    | exact ⟨_, _, rfl, rfl, ⟨heap_alloc_new _ _⟩, ⟨QB.out.size, Nat.le_refl _⟩, ⟨MapKd.own_alloc OB.out _⟩, ⟨below_alloc QB.out _⟩⟩
 case rest =>
  obtain ⟨gs, bm, rfl, rfl, HX, HGE, HO, HC⟩ := hcut
  have HB2 := Aside0.mk (below_chain HB1.out HC.out)
  have HA0 := Aside0.mk (show k4.R 22 wc wb.heap.size (fun _ => True) (.slice (some ⟨gs, 0, none⟩) 1 1) [(s0, s1, s2, s3)] from by
   refine ⟨fun j hj => trivial, [.int .i64 s0, .int .i64 s1, .int .i64 s2, .int .i64 s3], ⟨rfl, .inr ⟨gs, 1, #[.int .i64 s0, .int .i64 s1, .int .i64 s2, .int .i64 s3], rfl, Nat.le_trans HB1.out.size HGE.out.1, HX.out, Nat.le_refl _, by unfold maxLen; omega, rfl, rfl⟩⟩, rfl, fun j p hp => ?_⟩
   cases j with
   | zero =>
    obtain rfl := (Option.some.inj hp).symm
    exact k4_mkM _ _ _ _
   | succ j => simp at hp)
  have HI0 := Aside0.mk (BInv.start k (s0, s1, s2, s3))
  have HO1 := Aside0.mk (SeenB.start HO.out)
  have HBM := Aside0.mk (show wb.heap.size ≤ bm from Nat.le_trans HB1.out.size HGE.out.2)
  clear r0 r1 r2 r3 MK0 HX HO HC HGE
  go_wp2_with fail
  go_loopw [8, 10, 31] (fun v8 v10 v31 wr => ∃ (n f g cp : Nat) (out : List Sd), v8 = .slice (some ⟨g, 0, none⟩) out.length cp ∧ v10 = .int .i64 f ∧ v31 = .int .i64 n ∧ Aside0 (n ≤ T) ∧ Aside0 (k4.R 22 wr wb.heap.size (fun _ => True) (.slice (some ⟨g, 0, none⟩) out.length cp) out) ∧ Aside0 (SeenB wr bm out) ∧ Aside0 (BInv k (s0, s1, s2, s3) n out f) ∧ Aside0 (Below wb.heap.size wb wr)) (fun _ _ v31 _ => T + 1 - (intOf v31).toNat)
  case atStart => exact ⟨0, 0, gs, 1, [(s0, s1, s2, s3)], rfl, rfl, rfl, ⟨Nat.zero_le _⟩, HA0, HO1, HI0, HB2⟩
  case round =>
   clear HA0 HO1 HI0 HB2
   obtain ⟨n, f, g, cp, out, rfl, rfl, rfl, HN, HA, HO, HI, HB⟩ := hrel
   obtain ⟨wz, rfl⟩ : ∃ wz : World, wz = wr := ⟨_, rfl⟩
   have hn := HN.out
   have HSA := Aside0.mk (show ∀ x ∈ out, Sand k (fn4 x) from fun x hx => WIn.sand HSD.out _ ((HI.out.mem x).1 hx))
   have hll : out.length ≤ 923521 := nd_len HKD.out HI.out.nd HSA.out
   have hl0 : 0 < out.length := List.length_pos_of_mem ((HI.out.mem _).2 (WIn.selfI k (s0, s1, s2, s3) n))
   by_cases cn : n < T
   ·have cn0 : decide (n < T) = true := decide_eq_true cn
    have cn1 : decide ((n : Int) < (T : Int)) = true := decide_eq_true (by omega)
    go_wp2_with fail
    go_loopw [8, 10] (fun v8 v10 wr => ∃ (f g cp : Nat) (out' : List Sd), v8 = .slice (some ⟨g, 0, none⟩) out'.length cp ∧ v10 = .int .i64 f ∧ Aside0 (f ≤ out.length) ∧ Aside0 (k4.R 22 wr wb.heap.size (fun _ => True) (.slice (some ⟨g, 0, none⟩) out'.length cp) out') ∧ Aside0 (SeenB wr bm out') ∧ Aside0 (BRun k out out' f 0) ∧ Aside0 (Below wb.heap.size wb wr)) (fun _ v10 _ => out.length + 1 - (intOf v10).toNat)
    case atStart => exact ⟨f, g, cp, out, rfl, rfl, ⟨HI.out.le⟩, HA, HO, ⟨BRun.start HI.out⟩, HB⟩
    case round =>
     clear HA HO HB
     obtain ⟨f, g, cp, out', rfl, rfl, HF, HA, HO, HV, HB⟩ := hrel
     obtain ⟨wy, rfl⟩ : ∃ wy : World, wy = wr := ⟨_, rfl⟩
     have hf := HF.out
     by_cases cf : f < out.length
     ·have cf0 : decide (f < out.length) = true := decide_eq_true cf
      have cf1 : decide ((f : Int) < (out.length : Int)) = true := decide_eq_true (by omega)
      obtain ⟨⟨x0, x1, x2, x3⟩, hx⟩ : ∃ x, out[f]? = some x := ⟨_, List.getElem?_eq_getElem cf⟩
      have HX := Aside0.mk hx
      have HXS := Aside0.mk (HSA.out _ (List.mem_of_getElem? hx))
      have HKy := Aside0.mk (blk_below HKb.out HB.out)
      have m0 : wy.cell? ⟨w.heap.size, 0, none⟩ = some (.int .i64 (k 0)) := (blk_cell HKy.out 0).trans rfl
      have m1 : wy.cell? ⟨w.heap.size, 1, none⟩ = some (.int .i64 (k 1)) := (blk_cell HKy.out 1).trans rfl
      have m2 : wy.cell? ⟨w.heap.size, 2, none⟩ = some (.int .i64 (k 2)) := (blk_cell HKy.out 2).trans rfl
      have m3 : wy.cell? ⟨w.heap.size, 3, none⟩ = some (.int .i64 (k 3)) := (blk_cell HKy.out 3).trans rfl
      clear hx
      go_wp2_with fail
      refine (sets_any k _).mono ?_
      rintro e w2 ⟨vs, rfl, hR2, hb2⟩
      have HA2 := Aside0.mk (Kd.R_below HA.out hb2)
      have HO2 := Aside0.mk (HO.out.below hb2)
      have HB3 := Aside0.mk (below_chain HB.out hb2)
      obtain ⟨n2, hn2, hR2⟩ := R_at hR2
      obtain ⟨A0, c0, rfl, _, _⟩ := Kd.R_reads hR2
      have HS2 := Aside0.mk hR2
      clear m0 m1 m2 m3 hR2 hb2 hn2 HA HO HB HKy
      have hsl := setsL_len k
      go_wp2_with fail
      go_loopw [8, 43] (fun v8 v43 wr => ∃ (j g cp : Nat) (out' : List Sd), v8 = .slice (some ⟨g, 0, none⟩) out'.length cp ∧ v43 = .int .i64 j ∧ Aside0 (j ≤ (setsL k).length) ∧ Aside0 (k4.R 22 wr wb.heap.size (fun _ => True) (.slice (some ⟨g, 0, none⟩) out'.length cp) out') ∧ Aside0 (SeenB wr bm out') ∧ Aside0 (BRun k out out' f j) ∧ Aside0 (Kd.R (Kd.int .i64) 3 wr n2 (fun _ => True) (.slice A0 (setsL k).length c0) (setsL k)) ∧ Aside0 (Below wb.heap.size wb wr)) (fun _ v43 _ => 17 - (intOf v43).toNat)
      case atStart => exact ⟨0, g, cp, out', rfl, rfl, ⟨Nat.zero_le _⟩, HA2, HO2, HV, HS2, HB3⟩
      case round =>
       clear HA2 HO2 HV HS2 HB3
       obtain ⟨j, g, cp, out', rfl, rfl, HJ, HA, HO, HV, HS, HB⟩ := hrel
       obtain ⟨wx, rfl⟩ : ∃ wx : World, wx = wr := ⟨_, rfl⟩
       have hj := HJ.out
       have HSO := Aside0.mk (HV.out.sand HSA.out)
       have hlo : out'.length ≤ 923521 := nd_len HKD.out HV.out.nd HSO.out
       by_cases cj : j < (setsL k).length
       ·have cj0 : decide (j < (setsL k).length) = true := decide_eq_true cj
        have cj1 : decide ((j : Int) < ((setsL k).length : Int)) = true := decide_eq_true (by omega)
        obtain ⟨set, hset⟩ : ∃ set, (setsL k)[j]? = some set := ⟨_, List.getElem?_eq_getElem cj⟩
        obtain ⟨at1, e1, ht1⟩ := Kd.at_int (Kd.R_reads' HS.out).2.2 (j : Int) (by omega) (by omega)
        cases e1
        rw [show rd (setsL k) (j : Int) = set by simp [rd, List.getD_eq_getElem?_getD, hset], show ((j : Int)).toNat = j from Int.toNat_natCast j] at ht1
        have HSET := Aside0.mk hset
        have HKx := Aside0.mk (blk_below HKb.out HB.out)
        obtain ⟨h0, h1, h2, h3⟩ := cellsOf4 HA.out ((HV.out.at cf).trans HX.out)
        have m0 : wx.cell? ⟨w.heap.size, 0, none⟩ = some (.int .i64 (k 0)) := (blk_cell HKx.out 0).trans rfl
        have m1 : wx.cell? ⟨w.heap.size, 1, none⟩ = some (.int .i64 (k 1)) := (blk_cell HKx.out 1).trans rfl
        have m2 : wx.cell? ⟨w.heap.size, 2, none⟩ = some (.int .i64 (k 2)) := (blk_cell HKx.out 2).trans rfl
        have m3 : wx.cell? ⟨w.heap.size, 3, none⟩ = some (.int .i64 (k 3)) := (blk_cell HKx.out 3).trans rfl
        have l1 : w.heap.size < wx.heap.size := blk_lt HKx.out
        have l2 : g < wx.heap.size := Kd.R_lt HA.out g rfl
        have hgd := sand_good (sand_tup (HXS.out.step set))
        obtain ⟨d, hdd⟩ : ∃ d, stepD k (fn4 (x0, x1, x2, x3)) set = d := ⟨_, rfl⟩
        obtain ⟨t0, ht0⟩ : ∃ t, stepS k (fn4 (x0, x1, x2, x3)) set 0 = t := ⟨_, rfl⟩
        obtain ⟨t1, ht1'⟩ : ∃ t, stepS k (fn4 (x0, x1, x2, x3)) set 1 = t := ⟨_, rfl⟩
        obtain ⟨t2, ht2⟩ : ∃ t, stepS k (fn4 (x0, x1, x2, x3)) set 2 = t := ⟨_, rfl⟩
        obtain ⟨t3, ht3⟩ : ∃ t, stepS k (fn4 (x0, x1, x2, x3)) set 3 = t := ⟨_, rfl⟩
        have HSt : ∀ W : World, Calls Try.prog 66 #[A4 k, .agg #[.int .i64 x0, .int .i64 x1, .int .i64 x2, .int .i64 x3], .int .i64 set] W fun e w' => e = .returned (.tuple #[.agg #[.int .i64 t0, .int .i64 t1, .int .i64 t2, .int .i64 t3], .int .i64 d]) ∧ Below W.heap.size W w' := by
         intro W
         have := step_any k (fn4 (x0, x1, x2, x3)) set HXS.out W
         rw [hdd] at this
         simp only [A4, ht0, ht1', ht2, ht3] at this
         exact this
        have HGO := Aside0.mk (show goS k (x0, x1, x2, x3) set = (t0, t1, t2, t3) from by rw [← ht0, ← ht1', ← ht2, ← ht3]; rfl)
        have HGD := Aside0.mk (show goD k (x0, x1, x2, x3) set = d from hdd)
        have HG4 := Aside0.mk (show good4 (t0, t1, t2, t3) from by rw [← ht0, ← ht1', ← ht2, ← ht3]; exact hgd)
        have MK1 := Aside0.mk (show ∀ W' : World, Below wx.heap.size wx W' → (W'.cell? ⟨w.heap.size, 0, none⟩ = some (.int .i64 (k 0)) ∧ W'.cell? ⟨w.heap.size, 1, none⟩ = some (.int .i64 (k 1)) ∧ W'.cell? ⟨w.heap.size, 2, none⟩ = some (.int .i64 (k 2)) ∧ W'.cell? ⟨w.heap.size, 3, none⟩ = some (.int .i64 (k 3))) ∧ W'.cell? ⟨g, f * 4, none⟩ = some (.int .i64 x0) ∧ W'.cell? ⟨g, f * 4 + 1, none⟩ = some (.int .i64 x1) ∧ W'.cell? ⟨g, f * 4 + 2, none⟩ = some (.int .i64 x2) ∧ W'.cell? ⟨g, f * 4 + 3, none⟩ = some (.int .i64 x3) from fun W' hb => ⟨⟨keep_below hb m0, keep_below hb m1, keep_below hb m2, keep_below hb m3⟩, keep_below hb h0, keep_below hb h1, keep_below hb h2, keep_below hb h3⟩)
        have hlen := HV.out.len
        have p0 : (0 : Int) ≤ (f : Int) := by omega
        have p1 : (f : Int) < (out'.length : Int) := by omega
        clear m0 m1 m2 m3 h0 h1 h2 h3 hgd hdd ht0 ht1' ht2 ht3 hset
        go_wp2_with fail
        clear ht1 cj0 cj1
        go_cut [14, 15] (fun v14 v15 wq => ∃ gx : Nat, v14 = .pointer (some ⟨gx, 0, none⟩) ∧ v15 = .int .i64 d ∧ wq.cell? ⟨gx, 0, none⟩ = some (.int .i64 t0) ∧ wq.cell? ⟨gx, 1, none⟩ = some (.int .i64 t1) ∧ wq.cell? ⟨gx, 2, none⟩ = some (.int .i64 t2) ∧ wq.cell? ⟨gx, 3, none⟩ = some (.int .i64 t3) ∧ Aside0 (Below wx.heap.size wx wq))
        case first =>
         go_region_held3 (fun w' => (w'.cell? ⟨w.heap.size, 0, none⟩ = some (.int .i64 (k 0)) ∧ w'.cell? ⟨w.heap.size, 1, none⟩ = some (.int .i64 (k 1)) ∧ w'.cell? ⟨w.heap.size, 2, none⟩ = some (.int .i64 (k 2)) ∧ w'.cell? ⟨w.heap.size, 3, none⟩ = some (.int .i64 (k 3))) ∧ w'.cell? ⟨g, f * 4, none⟩ = some (.int .i64 x0) ∧ w'.cell? ⟨g, f * 4 + 1, none⟩ = some (.int .i64 x1) ∧ w'.cell? ⟨g, f * 4 + 2, none⟩ = some (.int .i64 x2) ∧ w'.cell? ⟨g, f * 4 + 3, none⟩ = some (.int .i64 x3))
          (first | (refine MK1.out _ ?_; ((repeat first | (with_reducible assumption) | (with_reducible exact Below.refl _ _) | ((with_reducible refine bl_alloc _ ?_ ?_); focus (first | (simp; done) | (simp; omega) | omega | (with_reducible exact below_size (by with_reducible assumption)))) | ((with_reducible refine bl_set _ ?_ ?_); focus (first | (simp; done) | (simp; omega) | omega | (with_reducible exact below_size (by with_reducible assumption)))) | (with_reducible refine Below.drew ?_) | (with_reducible refine bl_drewN _ ?_)); done)))
          (first
           | (go_at_call 66; refine (HSt _).mono ?_; rintro e w5 ⟨rfl, hb5⟩; have q5 : Below wx.heap.size wx w5 := below_chain (by ((repeat first | (with_reducible assumption) | (with_reducible exact Below.refl _ _) | ((with_reducible refine bl_alloc _ ?_ ?_); focus (first | (simp; done) | (simp; omega) | omega | (with_reducible exact below_size (by with_reducible assumption)))) | ((with_reducible refine bl_set _ ?_ ?_); focus (first | (simp; done) | (simp; omega) | omega | (with_reducible exact below_size (by with_reducible assumption)))) | (with_reducible refine Below.drew ?_) | (with_reducible refine bl_drewN _ ?_)); done)) hb5; have z0 := below_size q5; try (have hx5 : w5.heap[wx.heap.size]? = some (.cells #[.int .i64 0, .int .i64 0, .int .i64 0, .int .i64 0] 22 (0, 0)) := blk_below (by first | (with_reducible refine box_new ?_; first | rfl | simp) | (with_reducible refine blk_drew (box_new ?_); first | rfl | simp)) hb5; have z1 := blk_lt hx5; have y0 : w5.cell? ⟨wx.heap.size, 0, none⟩ = some (.int .i64 0) := (blk_cell hx5 0).trans rfl; have y1 : w5.cell? ⟨wx.heap.size, 1, none⟩ = some (.int .i64 0) := (blk_cell hx5 1).trans rfl; have y2 : w5.cell? ⟨wx.heap.size, 2, none⟩ = some (.int .i64 0) := (blk_cell hx5 2).trans rfl; have y3 : w5.cell? ⟨wx.heap.size, 3, none⟩ = some (.int .i64 0) := (blk_cell hx5 3).trans rfl; have f0 := blk_frozen hx5 0; have f1 := blk_frozen hx5 1; have f2 := blk_frozen hx5 2; have f3 := blk_frozen hx5 3; clear hx5)))
         all_goals
          go_wp2_with fail
          go_meet
          refine ⟨_, rfl, rfl, ?_, ?_, ?_, ?_, ⟨by ((repeat first | (with_reducible assumption) | (with_reducible exact Below.refl _ _) | ((with_reducible refine bl_alloc _ ?_ ?_); focus (first | (simp; done) | (simp; omega) | omega | (with_reducible exact below_size (by with_reducible assumption)))) | ((with_reducible refine bl_set _ ?_ ?_); focus (first | (simp; done) | (simp; omega) | omega | (with_reducible exact below_size (by with_reducible assumption)))) | (with_reducible refine Below.drew ?_) | (with_reducible refine bl_drewN _ ?_)); done)⟩⟩
          all_goals (first | ((with_reducible refine set4_0 (.int .i64 0) ?_); (with_reducible assumption)) | ((with_reducible refine set4_1 (.int .i64 0) ?_); (with_reducible assumption)) | ((with_reducible refine set4_2 (.int .i64 0) ?_); (with_reducible assumption)) | ((with_reducible refine set4_3 (.int .i64 0) ?_); (with_reducible assumption)) | (simp [go_sem]; done))
        case rest =>
         obtain ⟨gx, rfl, rfl, t0c, t1c, t2c, t3c, HBc⟩ := hcut
         have HAc := Aside0.mk (Kd.R_below HA.out HBc.out)
         have HOc := Aside0.mk (HO.out.below HBc.out)
         have HSc := Aside0.mk (Kd.R_below HS.out HBc.out)
         have HBC := Aside0.mk (below_chain HB.out HBc.out)
         obtain ⟨b, hb⟩ : ∃ b, decide (((t0, t1, t2, t3) : Sd) ∈ out') = b := ⟨_, rfl⟩
         have hlk := SeenB.look HOc.out HG4.out
         rw [hb] at hlk
         have HBB := Aside0.mk hb
         clear hb
         by_cases cd : 0 < d
         ·have cd0 : decide (0 < d) = true := decide_eq_true cd
          have cd1 : decide (d > 0) = true := decide_eq_true cd
          cases b with
          | true =>
           have HV2 := Aside0.mk (HV.out.skip HX.out HSET.out (fun h => h.2 (by rw [HGO.out]; exact of_decide_eq_true HBB.out)))
           go_wp2_with fail
           exact ⟨⟨j + 1, g, cp, out', rfl, by go_num, ⟨by omega⟩, HAc, HOc, HV2, HSc, HBC⟩, by simp only [intOf]; omega⟩
          | false =>
           have HV2 := Aside0.mk (show BRun k out (out' ++ [(t0, t1, t2, t3)]) f (j + 1) from HGO.out ▸ HV.out.add HX.out HSET.out (by rw [HGD.out]; exact cd) (by rw [HGO.out]; exact of_decide_eq_false HBB.out))
           have HIS := Aside0.mk HOc.out.is
           have MK2 := Aside0.mk (show ∀ W' : World, wc.grownBy W' (some bm) → W'.cell? ⟨gx, 0, none⟩ = some (.int .i64 t0) ∧ W'.cell? ⟨gx, 1, none⟩ = some (.int .i64 t1) ∧ W'.cell? ⟨gx, 2, none⟩ = some (.int .i64 t2) ∧ W'.cell? ⟨gx, 3, none⟩ = some (.int .i64 t3) from fun W' hg => ⟨cell_grown t0c hg (fun e => cell_map t0c HIS.out (Option.some.inj e)), cell_grown t1c hg (fun e => cell_map t1c HIS.out (Option.some.inj e)), cell_grown t2c hg (fun e => cell_map t2c HIS.out (Option.some.inj e)), cell_grown t3c hg (fun e => cell_map t3c HIS.out (Option.some.inj e))⟩)
           have MK3 := Aside0.mk (show ∀ W' : World, wc.grownBy W' (some bm) → k4.R 22 W' wb.heap.size (fun _ => True) (.slice (some ⟨g, 0, none⟩) out'.length cp) out' ∧ Kd.R (Kd.int .i64) 3 W' n2 (fun _ => True) (.slice (some at1) (setsL k).length c0) (setsL k) ∧ Below wb.heap.size wb W' from fun W' hg => ⟨R_map flat4 HAc.out HIS.out hg, R_map (fun _ _ _ _ _ _ h => h) HSc.out HIS.out hg, HBC.out.grown hg HBC.out.size (fun q hq => by have := Option.some.inj hq; have := HBM.out; omega)⟩)
           obtain ⟨L, hown, hmem, hall⟩ := HOc.out
           have HOW := Aside0.mk hown
           have HME := Aside0.mk hmem
           have HAL := Aside0.mk hall
           have HLL := Aside0.mk (show L.length < maxLen from by
            have h1 := MapKd.own_nodup hown
            have h2 : L.length ≤ 923521 := few31s HKD.out h1 (fun p hp => by
             have h3 := getA_mem h1 (show (p.1, p.2) ∈ L from hp)
             have h4 := hmem p.1
             rw [h3] at h4
             rw [hall p hp] at h4
             exact HSO.out _ (of_decide_eq_true h4.symm))
            unfold maxLen
            omega)
           clear hown hmem hall
           go_wp2_with (first
            | (at_mapUpdate; refine wpList_update_om _ MB rfl _ _ _ 75 rfl 4 Try.underlying75 bm L.length L rfl HOW.out HLL.out (t0, t1, t2, t3) true rfl rfl HG4.out ?_; intro w8 hown8 hgrow8 hsz8; obtain ⟨e0, e1, e2, e3⟩ := MK2.out w8 hgrow8; obtain ⟨hA8, hS8, hB8⟩ := MK3.out w8 hgrow8)
            | (at_builtin; refine Kd.R_append k4 (w0 := wb) wb.heap.size rfl (.tmp 67) (.tmp 69) 43 22 (.agg #[(.int .i64 0), (.int .i64 0), (.int .i64 0), (.int .i64 0)]) 32 rfl Try.underlying43 info4p rfl (by decide) (by decide) _ out' (t0, t1, t2, t3) [.int .i64 t0, .int .i64 t1, .int .i64 t2, .int .i64 t3] (fun _ => True) (fun _ => False) rfl (by first | (go_simp; done) | (go_simp; rfl)) (k4_mkM _ _ _ _) (fun _ h => h.elim) (fun _ _ => trivial) hA8 hB8 hB8.size (by omega) ?_; intro v9 w9 hO9 hB9 hg9 hat9)
            | fail)
           have hl9 : 0 < (out' ++ [((t0, t1, t2, t3) : Sd)]).length := by simp
           obtain ⟨g9, cp9, rfl, _, _, _⟩ := Kd.R_form hO9 hl9
           have HO9 := Aside0.mk (SeenB.kept (SeenB.put HME.out HAL.out hown8) hg9 (Kd.R_typed hA8))
           have HS9 := Aside0.mk (Kd.R_over' hS8 (Kd.R_typed hA8) (by decide) hg9)
           exact ⟨⟨j + 1, g9, cp9, _, rfl, by go_num, ⟨by omega⟩, ⟨hO9⟩, HO9, HV2, HS9, ⟨hB9⟩⟩, by simp only [intOf]; omega⟩
         ·have cd0 : decide (0 < d) = false := decide_eq_false cd
          have cd1 : decide (d > 0) = false := decide_eq_false cd
          have HV2 := Aside0.mk (HV.out.skip HX.out HSET.out (fun h => cd (by rw [HGD.out] at h; exact h.1)))
          go_wp2_with fail
          exact ⟨⟨j + 1, g, cp, out', rfl, by go_num, ⟨by omega⟩, HAc, HOc, HV2, HSc, HBC⟩, by simp only [intOf]; omega⟩
       ·have cj0 : decide (j < (setsL k).length) = false := decide_eq_false cj
        have cj1 : decide ((j : Int) < ((setsL k).length : Int)) = false := decide_eq_false (by omega)
        obtain rfl : j = (setsL k).length := by omega
        go_wp2_with fail
        exact ⟨⟨f + 1, g, cp, out', rfl, by go_num, ⟨by omega⟩, HA, HO, ⟨HV.out.turn HX.out⟩, HB⟩, by simp only [intOf]; omega⟩
     ·have cf0 : decide (f < out.length) = false := decide_eq_false cf
      have cf1 : decide ((f : Int) < (out.length : Int)) = false := decide_eq_false (by omega)
      obtain rfl : f = out.length := by omega
      have HI2 := Aside0.mk (HV.out.done HI.out)
      go_wp2_with fail
      exact ⟨⟨n + 1, out.length, g, cp, out', rfl, rfl, by go_num, ⟨by omega⟩, HA, HO, HI2, HB⟩, by simp only [intOf]; omega⟩
   ·have cn0 : decide (n < T) = false := decide_eq_false cn
    have cn1 : decide ((n : Int) < (T : Int)) = false := decide_eq_false (by omega)
    obtain rfl : n = T := by omega
    go_wp2_with fail
    refine (sort_c hl0 (by omega) HA.out).mono ?_
    rintro e w9 ⟨rfl, hR9, hg9⟩
    have HF := Aside0.mk (show k4.R 22 w9 w.heap.size (fun _ => True) (.slice (some ⟨g, 0, none⟩) out.length cp) (sandsL k (s0, s1, s2, s3) n) from by
     rw [sandsL_is (l := sortL out) ⟨sortL_srt HI.out.nd, fun x => (sortL_perm out).mem_iff.trans (HI.out.mem x)⟩] at hR9
     exact Kd.R_lower hR9 HBb.out.size)
    have HBF := Aside0.mk (below_chain HBb.out (HB.out.grown hg9 HB.out.size (fun q hq => by have := Option.some.inj hq; have := Kd.R_base HA.out g rfl; omega)))
    clear hR9 hg9
    go_wp2_with fail
    go_ret2
    exact ⟨_, rfl, HF.out, HBF.out⟩
end Go.Proofs.Ytlhodfjdmafapaa
end
section
namespace Go.Proofs.Ytlhodfjdmafapaa
open Go.RowKit Go.Maps Go.Proofs.YtlhodfjdmafapaaW.PrintWords Go.Proofs.YtlhodfjdmafapaaW.PrintLast
set_option linter.unusedVariables false
set_option linter.unusedSimpArgs false
def okW (k : Nat → Int) (s : Sd) (t : Int) : Bool := (isKitB k && isSandB k (fn4 s)) && inB 0 3 t
noncomputable def resW (k : Nat → Int) (s : Sd) (t : Int) : List Sd := if okW k s t = true then sandsL k s t.toNat else []
theorem okW_parts {k : Nat → Int} {s : Sd} {t : Int} (h : okW k s t = true) : isKitB k = true ∧ isSandB k (fn4 s) = true ∧ ∃ T : Nat, t = (T : Int) ∧ T ≤ 3 := by
 unfold okW at h
 simp only [Bool.and_eq_true] at h
 have h3 := inB_iff.1 h.2
 exact ⟨h.1.1, h.1.2, t.toNat, by omega, by omega⟩
set_option maxHeartbeats 1600000 in
theorem sandsS_any (k : Nat → Int) (s0 s1 s2 s3 t : Int) (w : World) : Calls Try.prog 31 #[A4 k, .agg #[.int .i64 s0, .int .i64 s1, .int .i64 s2, .int .i64 s3], .int .i64 t] w fun e w' => ∃ v0 : Value, e = .returned (.tuple #[v0, .bool (okW k (s0, s1, s2, s3) t)]) ∧ k4.R 22 w' w.heap.size (fun _ => True) v0 (resW k (s0, s1, s2, s3) t) ∧ Below w.heap.size w w' := by
 cases hok : okW k (s0, s1, s2, s3) t with
 | true =>
  obtain ⟨h1, h2, T, rfl, h3⟩ := okW_parts hok
  unfold resW
  rw [if_pos hok, Int.toNat_natCast]
  exact sandsS_c k s0 s1 s2 s3 T h3 h1 h2 w
 | false =>
  unfold resW
  rw [if_neg (by rw [hok]; simp)]
  have HOK := Aside0.mk hok
  clear hok
  go_enter Try.func31, Try.ntmps31
  go_wp2_with fail
  obtain ⟨b, hb⟩ : ∃ b, (isSandB k (fn4 (s0, s1, s2, s3)) && isKitB k) = b := ⟨_, rfl⟩
  have hc1 := l2Sand_any k (fn4 (s0, s1, s2, s3))
  rw [hb] at hc1
  refine (hc1 _).mono ?_
  rintro e w1 ⟨rfl, hb1⟩
  have HB1 := Aside0.mk (show Below w.heap.size w w1 from below_chain (below_alloc (below_alloc (Below.refl _ _) _) _) hb1)
  have HBB := Aside0.mk hb
  clear hb1 hc1 hb
  cases b with
  | false =>
   go_wp2_with fail
   go_ret2
   exact ⟨_, rfl, row_empty (heap_alloc_new _ _) HB1.out.size, below_alloc HB1.out _⟩
  | true =>
   have hc2 := l1In_any t 0 3
   have h2 : inB 0 3 t = false := by
    have h := HOK.out
    unfold okW at h
    rw [show (isKitB k && isSandB k (fn4 (s0, s1, s2, s3))) = true by rw [Bool.and_comm]; exact HBB.out, Bool.true_and] at h
    exact h
   rw [h2] at hc2
   go_wp2_with fail
   refine (hc2 _).mono ?_
   rintro e w2 ⟨rfl, rfl⟩
   clear hc2 h2
   go_wp2_with fail
   go_ret2
   exact ⟨_, rfl, row_empty (heap_alloc_new _ _) HB1.out.size, below_alloc HB1.out _⟩
set_option maxHeartbeats 1600000 in
theorem sandsI_any (k : Nat → Int) (s0 s1 s2 s3 t : Int) (w : World) : Calls Try.prog 32 #[A4 k, .agg #[.int .i64 s0, .int .i64 s1, .int .i64 s2, .int .i64 s3], .int .i64 t] w fun e w' => ∃ v0 : Value, e = .returned (.tuple #[v0, .bool (okW k (s0, s1, s2, s3) t)]) ∧ k4.R 22 w' w.heap.size (fun _ => True) v0 (resW k (s0, s1, s2, s3) t) ∧ Below w.heap.size w w' := by
 cases hok : okW k (s0, s1, s2, s3) t with
 | true =>
  obtain ⟨h1, h2, T, rfl, h3⟩ := okW_parts hok
  unfold resW
  rw [if_pos hok, Int.toNat_natCast]
  exact sandsI_c k s0 s1 s2 s3 T h3 h1 h2 w
 | false =>
  unfold resW
  rw [if_neg (by rw [hok]; simp)]
  have HOK := Aside0.mk hok
  clear hok
  go_enter Try.func32, Try.ntmps32
  go_wp2_with fail
  obtain ⟨b, hb⟩ : ∃ b, (isKitB k && isSandB k (fn4 (s0, s1, s2, s3))) = b := ⟨_, rfl⟩
  have hc1 := areSand_any k (fn4 (s0, s1, s2, s3))
  rw [hb] at hc1
  refine (hc1 _).mono ?_
  rintro e w1 ⟨rfl, hb1⟩
  have HB1 := Aside0.mk (show Below w.heap.size w w1 from below_chain (below_alloc (below_alloc (Below.refl _ _) _) _) hb1)
  have HBB := Aside0.mk hb
  clear hb1 hc1 hb
  cases b with
  | false =>
   go_wp2_with fail
   go_ret2
   exact ⟨_, rfl, Kd.R_nil _ _ _ _ _, HB1.out⟩
  | true =>
   have hc2 := within_any t 0 3
   have h2 : inB 0 3 t = false := by
    have h := HOK.out
    unfold okW at h
    rw [HBB.out, Bool.true_and] at h
    exact h
   rw [h2] at hc2
   go_wp2_with fail
   refine (hc2 _).mono ?_
   rintro e w2 ⟨rfl, rfl⟩
   clear hc2 h2
   go_wp2_with fail
   go_ret2
   exact ⟨_, rfl, Kd.R_nil _ _ _ _ _, HB1.out⟩
theorem resW_len (k : Nat → Int) (s : Sd) (t : Int) : (resW k s t).length ≤ 923521 := by
 unfold resW
 by_cases h : okW k s t = true
 ·rw [if_pos h]
  obtain ⟨h1, h2, _⟩ := okW_parts h
  unfold sandsL
  split
  ·rename_i q
   have hc := q.choose_spec
   exact nd_len (kit_bounds h1) (srt_nodup hc.1) (fun x hx => WIn.sand (sand_of h1 h2) _ ((hc.2 x).1 hx))
  ·simp
 ·rw [if_neg h]
  simp
end Go.Proofs.Ytlhodfjdmafapaa
end
section
namespace Go.Proofs.Ytlhodfjdmafapaa
open Go.RowKit Go.Proofs.YtlhodfjdmafapaaW.PrintWords Go.Proofs.YtlhodfjdmafapaaW.PrintLast
set_option linter.unusedVariables false
set_option linter.unusedSimpArgs false
theorem add_plain4 (g j : Nat) : Addr.add ⟨g, 0, none⟩ j = ⟨g, j, none⟩ := by
 cases j with
 | zero => rfl
 | succ j => simp [Addr.add]
theorem blk4 {L : List Sd} {e base cp : Nat} {ok : Nat → Prop} {A : Option Addr} {w : World} (hR : Kd.R k4 e w base ok (.slice A L.length cp) L) (hn : 0 < L.length) :
  ∃ (g : Nat) (cs : Array Value), A = some ⟨g, 0, none⟩ ∧ base ≤ g ∧ w.heap[g]? = some (.cells cs e (0, 0)) ∧ 4 * L.length ≤ cs.size := by
 obtain ⟨g, c, e1, gb, gl, cl, HG⟩ := Kd.R_form hR hn
 injection e1 with ea en ec
 subst ea
 obtain ⟨cs, hcs⟩ := Kd.R_typed hR g rfl
 refine ⟨g, cs, rfl, gb, hcs, ?_⟩
 obtain ⟨_, _, hC⟩ := Kd.R_reads' hR
 obtain ⟨ad, ead, hc⟩ := hC.2.2 (by omega)
 injection ead with ead
 subst ead
 obtain ⟨us, h1, h2, h3⟩ := hc (L.length - 1) _ (List.getElem?_eq_getElem (by omega))
 obtain ⟨y0, y1, y2, y3, rfl⟩ : ∃ y0 y1 y2 y3, us = [y0, y1, y2, y3] := by
  have : us.length = 4 := h1
  match us, this with
  | [y0, y1, y2, y3], _ => exact ⟨y0, y1, y2, y3, rfl⟩
 have h4 := h3 3 y3 rfl
 rw [add_plain4, blk_cell hcs] at h4
 have h5 : (L.length - 1) * 4 + 3 < cs.size := (Array.getElem?_eq_some_iff.1 h4).1
 omega
/-- the first n cells are marked from 1 on -/
def Marked (cs : Array Value) (n : Nat) : Prop := ∀ j, j < n → cs[j]? = some (.int .i64 (1 + (j : Int)))
theorem Marked.four {cs : Array Value} {x : Nat} (h : Marked cs (4 * x)) (hs : 4 * x + 4 ≤ cs.size) : Marked ((((cs.setIfInBounds (x * 4) (.int .i64 (1 + 4 * (x : Int)))).setIfInBounds (x * 4 + 1) (.int .i64 (1 + 4 * (x : Int) + 1))).setIfInBounds (x * 4 + 2) (.int .i64 (1 + 4 * (x : Int) + 1 + 1))).setIfInBounds (x * 4 + 3) (.int .i64 (1 + 4 * (x : Int) + 1 + 1 + 1))) (4 * (x + 1)) := by
 intro j hj
 simp only [Array.getElem?_setIfInBounds, Array.size_setIfInBounds]
 by_cases q3 : x * 4 + 3 = j
 ·rw [if_pos q3, if_pos (by omega)]
  congr 2; omega
 ·rw [if_neg q3]
  by_cases q2 : x * 4 + 2 = j
  ·rw [if_pos q2, if_pos (by omega)]
   congr 2; omega
  ·rw [if_neg q2]
   by_cases q1 : x * 4 + 1 = j
   ·rw [if_pos q1, if_pos (by omega)]
    congr 2; omega
   ·rw [if_neg q1]
    by_cases q0 : x * 4 = j
    ·rw [if_pos q0, if_pos (by omega)]
     congr 2; omega
    ·rw [if_neg q0]
     exact h j (by omega)
set_option maxHeartbeats 3200000 in
theorem markA4_any (L : List Sd) (base : Nat) (v : Value) (w : World) (hn : L.length ≤ 923521) (hbase : base ≤ w.heap.size) (hR : Kd.R k4 22 w base (fun _ => True) v L) :
  Calls Try.prog 34 #[v, .int .i64 1] w fun e w' => e = .returned (.int .i64 (1 + 4 * (L.length : Int))) ∧ Below base w w' ∧ (∀ i, v.ownBlock ≠ some i → w'.heap[i]? = w.heap[i]?) ∧ ∃ (A : Option Addr) (cp : Nat), v = .slice A L.length cp ∧ (0 < L.length → ∃ (g : Nat) (cs : Array Value), A = some ⟨g, 0, none⟩ ∧ base ≤ g ∧ w'.heap[g]? = some (.cells cs 22 (0, 0)) ∧ Marked cs (4 * L.length)) := by
 obtain ⟨A, cp, rfl, hcp, hC⟩ := Kd.R_reads hR
 have HB0 := Aside0.mk (fun hn : 0 < L.length => by
  obtain ⟨g, cs, h1, h2, h3, h4⟩ := blk4 hR hn
  exact (⟨g, cs, h1, h2, h3, h4, fun j hj => by omega⟩ : ∃ (g : Nat) (cs : Array Value), A = some ⟨g, 0, none⟩ ∧ base ≤ g ∧ w.heap[g]? = some (.cells cs 22 (0, 0)) ∧ 4 * L.length ≤ cs.size ∧ Marked cs (4 * 0)))
 clear hR hC hbase
 go_enter Try.func34, Try.ntmps34
 go_wp2_with fail
 go_loopw [1, 5, 6] (fun v1 v5 v6 wr => ∃ (x : Nat), v5 = .int .i64 (x : Int) ∧ v1 = .int .i64 (1 + 4 * (x : Int)) ∧ Aside0 (x ≤ L.length) ∧ Aside0 (0 < L.length → ∃ (g : Nat) (cs : Array Value), A = some ⟨g, 0, none⟩ ∧ base ≤ g ∧ wr.heap[g]? = some (.cells cs 22 (0, 0)) ∧ 4 * L.length ≤ cs.size ∧ Marked cs (4 * x)) ∧ Aside0 (Below base w wr) ∧ Aside0 (∀ i, (Value.slice A L.length cp).ownBlock ≠ some i → wr.heap[i]? = w.heap[i]?)) (fun _ v5 _ _ => L.length + 1 - (intOf v5).toNat)
 case atStart => exact ⟨0, rfl, rfl, ⟨Nat.zero_le _⟩, HB0, ⟨Below.refl _ _⟩, ⟨fun _ _ => rfl⟩⟩
 case round =>
  clear HB0
  obtain ⟨x, rfl, rfl, HX, HO, HB, HK⟩ := hrel
  have hx := HX.out
  by_cases c : x < L.length
  ·have c0 : decide (x < L.length) = true := decide_eq_true c
   have c00 : decide ((x : Int) < (L.length : Int)) = true := decide_eq_true (by omega)
   obtain ⟨g, cs, rfl, hgb, hcs, hsz, hmk⟩ := HO.out (by omega)
   have p9 : 0 ≤ (x : Int) := by omega
   obtain ⟨a, ha⟩ : ∃ a : Int, 1 + 4 * (x : Int) = a := ⟨_, rfl⟩
   have HM4 := Aside0.mk (ha ▸ hmk.four (by omega))
   rw [ha]
   obtain ⟨u0, hu0⟩ : ∃ u, cs[x * 4]? = some u := ⟨_, Array.getElem?_eq_getElem (by omega)⟩
   have c1 := (blk_cell hcs (x * 4)).trans hu0
   have f1 := blk_frozen hcs (x * 4)
   have b1 := blk_set hcs (x * 4) (.int .i64 a)
   obtain ⟨u1, hu1⟩ : ∃ u, (cs.setIfInBounds (x * 4) (.int .i64 a))[x * 4 + 1]? = some u := ⟨_, Array.getElem?_eq_getElem (by simp; omega)⟩
   have c2 := (blk_cell b1 (x * 4 + 1)).trans hu1
   have f2 := blk_frozen b1 (x * 4 + 1)
   have b2 := blk_set b1 (x * 4 + 1) (.int .i64 (a + 1))
   obtain ⟨u2, hu2⟩ : ∃ u, ((cs.setIfInBounds (x * 4) (.int .i64 a)).setIfInBounds (x * 4 + 1) (.int .i64 (a + 1)))[x * 4 + 2]? = some u := ⟨_, Array.getElem?_eq_getElem (by simp; omega)⟩
   have c3 := (blk_cell b2 (x * 4 + 2)).trans hu2
   have f3 := blk_frozen b2 (x * 4 + 2)
   have b3 := blk_set b2 (x * 4 + 2) (.int .i64 (a + 1 + 1))
   obtain ⟨u3, hu3⟩ : ∃ u, (((cs.setIfInBounds (x * 4) (.int .i64 a)).setIfInBounds (x * 4 + 1) (.int .i64 (a + 1))).setIfInBounds (x * 4 + 2) (.int .i64 (a + 1 + 1)))[x * 4 + 3]? = some u := ⟨_, Array.getElem?_eq_getElem (by simp; omega)⟩
   have c4 := (blk_cell b3 (x * 4 + 3)).trans hu3
   have f4 := blk_frozen b3 (x * 4 + 3)
   have b4 := blk_set b3 (x * 4 + 3) (.int .i64 (a + 1 + 1 + 1))
   have HB4 := Aside0.mk b4
   have HSZ := Aside0.mk (show 4 * L.length ≤ ((((cs.setIfInBounds (x * 4) (.int .i64 a)).setIfInBounds (x * 4 + 1) (.int .i64 (a + 1))).setIfInBounds (x * 4 + 2) (.int .i64 (a + 1 + 1))).setIfInBounds (x * 4 + 3) (.int .i64 (a + 1 + 1 + 1))).size by simp; omega)
   have HGB := Aside0.mk hgb
   have HF := Aside0.mk ((((HB.out.setCell (p := ⟨g, x * 4, none⟩) hgb (Value.int .i64 a)).setCell (p := ⟨g, x * 4 + 1, none⟩) hgb (Value.int .i64 (a + 1))).setCell (p := ⟨g, x * 4 + 2, none⟩) hgb (Value.int .i64 (a + 1 + 1))).setCell (p := ⟨g, x * 4 + 3, none⟩) hgb (Value.int .i64 (a + 1 + 1 + 1)))
   have HK2 := Aside0.mk (show ∀ i, (Value.slice (some ⟨g, 0, none⟩) L.length cp).ownBlock ≠ some i → ((((wr.setCell ⟨g, x * 4, none⟩ (.int .i64 a)).setCell ⟨g, x * 4 + 1, none⟩ (.int .i64 (a + 1))).setCell ⟨g, x * 4 + 2, none⟩ (.int .i64 (a + 1 + 1))).setCell ⟨g, x * 4 + 3, none⟩ (.int .i64 (a + 1 + 1 + 1))).heap[i]? = w.heap[i]? from fun i hi => by
    have hne : i ≠ g := fun e => hi (by rw [e]; rfl)
    exact (Below.heap_setCell _ ⟨g, x * 4 + 3, none⟩ _ i hne).trans ((Below.heap_setCell _ ⟨g, x * 4 + 2, none⟩ _ i hne).trans ((Below.heap_setCell _ ⟨g, x * 4 + 1, none⟩ _ i hne).trans ((Below.heap_setCell _ ⟨g, x * 4, none⟩ _ i hne).trans (HK.out i hi)))))
   have ha0 : 0 ≤ a := by omega
   have ha1 : a ≤ 4000000 := by omega
   have hx1 : (x : Int) ≤ 4000000 := by omega
   have HA := Aside0.mk (show a + 1 + 1 + 1 + 1 = 1 + 4 * ((x + 1 : Nat) : Int) by omega)
   clear HO HB HK hu0 hu1 hu2 hu3 b1 b2 b3 b4 hcs hgb hmk hx
   go_wp2_with fail
   refine wp_loop_rounds 5 ?_
   go_wp2_with (first | (rw [rounds_succ]) | fail)
   clear c1 c2 c3 c4 f1 f2 f3 f4
   refine ⟨⟨x + 1, by go_num, by rw [HA.out], ⟨by omega⟩, ⟨fun _ => ⟨g, _, rfl, HGB.out, HB4.out, HSZ.out, HM4.out⟩⟩, HF, HK2⟩, ?_⟩
   clear HF HK2 HB4 HSZ HM4
   simp only [intOf]
   omega
  ·have c0 : decide (x < L.length) = false := decide_eq_false c
   have c00 : decide ((x : Int) < (L.length : Int)) = false := decide_eq_false (by omega)
   obtain rfl : x = L.length := by omega
   go_wp2_with fail
   go_ret
   refine ⟨rfl, HB.out, HK.out, A, cp, rfl, fun h => ?_⟩
   obtain ⟨g, cs, h1, h2, h3, _, h5⟩ := HO.out h
   exact ⟨g, cs, h1, h2, h3, h5⟩
set_option maxHeartbeats 3200000 in
theorem heldA4_any (n : Nat) (hn : n ≤ 923521) (A : Option Addr) (cp : Nat) (hcp : n ≤ cp) (w : World) (h : 0 < n → ∃ (g : Nat) (cs : Array Value), A = some ⟨g, 0, none⟩ ∧ w.heap[g]? = some (.cells cs 22 (0, 0)) ∧ Marked cs (4 * n)) :
  Calls Try.prog 35 #[.slice A n cp, .int .i64 1] w fun e w' => e = .returned (.int .i64 (1 + 4 * (n : Int))) ∧ Below w.heap.size w w' := by
 have H := Aside0.mk h
 clear h
 go_enter Try.func35, Try.ntmps35
 go_wp2_with fail
 go_loopw [1, 5, 6] (fun v1 v5 v6 wr => ∃ (x : Nat), v5 = .int .i64 (x : Int) ∧ v1 = .int .i64 (1 + 4 * (x : Int)) ∧ Aside0 (x ≤ n) ∧ Aside0 (Below w.heap.size w wr)) (fun _ v5 _ _ => n + 1 - (intOf v5).toNat)
 case atStart => exact ⟨0, rfl, rfl, ⟨Nat.zero_le _⟩, ⟨Below.refl _ _⟩⟩
 case round =>
  obtain ⟨x, rfl, rfl, HX, HB⟩ := hrel
  have hx := HX.out
  by_cases c : x < n
  ·have c0 : decide (x < n) = true := decide_eq_true c
   have c00 : decide ((x : Int) < (n : Int)) = true := decide_eq_true (by omega)
   obtain ⟨g, cs, rfl, hcs0, hmk⟩ := H.out (by omega)
   have hcs := blk_below hcs0 HB.out
   have p9 : 0 ≤ (x : Int) := by omega
   obtain ⟨a, ha⟩ : ∃ a : Int, 1 + 4 * (x : Int) = a := ⟨_, rfl⟩
   rw [ha]
   have c1 : wr.cell? ⟨g, x * 4, none⟩ = some (.int .i64 a) := (blk_cell hcs (x * 4)).trans ((hmk (x * 4) (by omega)).trans (by congr 2; omega))
   have c2 : wr.cell? ⟨g, x * 4 + 1, none⟩ = some (.int .i64 (a + 1)) := (blk_cell hcs (x * 4 + 1)).trans ((hmk (x * 4 + 1) (by omega)).trans (by congr 2; omega))
   have c3 : wr.cell? ⟨g, x * 4 + 2, none⟩ = some (.int .i64 (a + 1 + 1)) := (blk_cell hcs (x * 4 + 2)).trans ((hmk (x * 4 + 2) (by omega)).trans (by congr 2; omega))
   have c4 : wr.cell? ⟨g, x * 4 + 3, none⟩ = some (.int .i64 (a + 1 + 1 + 1)) := (blk_cell hcs (x * 4 + 3)).trans ((hmk (x * 4 + 3) (by omega)).trans (by congr 2; omega))
   have ha0 : 0 ≤ a := by omega
   have ha1 : a ≤ 4000000 := by omega
   have hx1 : (x : Int) ≤ 4000000 := by omega
   have HA := Aside0.mk (show a + 1 + 1 + 1 + 1 = 1 + 4 * ((x + 1 : Nat) : Int) by omega)
   clear hcs hcs0 hmk hx
   go_wp2_with fail
   refine wp_loop_rounds 5 ?_
   go_wp2_with (first | (rw [rounds_succ]) | fail)
   clear c1 c2 c3 c4
   refine ⟨⟨x + 1, by go_num, by rw [HA.out], ⟨by omega⟩, HB⟩, ?_⟩
   simp only [intOf]
   omega
  ·have c0 : decide (x < n) = false := decide_eq_false c
   have c00 : decide ((x : Int) < (n : Int)) = false := decide_eq_false (by omega)
   obtain rfl : x = n := by omega
   go_wp2_with fail
   go_ret
   exact ⟨rfl, HB.out⟩
end Go.Proofs.Ytlhodfjdmafapaa
end
section
namespace Go.Proofs.Ytlhodfjdmafapaa.QSw
open Go.RowKit Go.Proofs.YtlhodfjdmafapaaW.PrintWords Go.Proofs.YtlhodfjdmafapaaW.PrintLast Go.Proofs.YtlhodfjdmafapaaW.PrintMore
attribute [local go_sem] max2_int min2_int max_two min_two max_three min_three max_four min_four   -- for this text's walks alone
set_option linter.unusedVariables false
set_option linter.unusedSimpArgs false
def errW : Option Int → Value
 | none => .nilIface
 | some c => .iface 0 (.int .i64 c)
theorem errW_none : errW none = .nilIface := rfl
theorem errW_some (c : Int) : errW (some c) = .iface 0 (.int .i64 c) := rfl
-- the values' own types
/-! #### struct type 22 -/
structure S22 where
 f0 : Int
 f1 : Int
 f2 : Int
 f3 : Int
def z22 : S22 := ⟨(0 : Int), (0 : Int), (0 : Int), (0 : Int)⟩
def k22 : Kd S22 := Kd.iso (Kd.pair (Kd.int .i64) (Kd.pair (Kd.int .i64) (Kd.pair (Kd.int .i64) (Kd.int .i64)))) (fun x : S22 => (x.f0, x.f1, x.f2, x.f3))
theorem k22_open {w : World} {x : S22} {cs : List Value} (h : k22.K w x cs) : cs = [.int .i64 x.f0, .int .i64 x.f1, .int .i64 x.f2, .int .i64 x.f3] := by
 obtain ⟨_, _, rfl, rfl, ⟨_, _, rfl, rfl, ⟨_, _, rfl, rfl, rfl⟩⟩⟩ := h
 exact rfl
def rd_T22 (xs : List S22) (i : Int) : S22 := xs.getD i.toNat z22
theorem at_T22 {w : World} {A : Option Addr} {n : Nat} {xs : List S22} (h : Kd.C k22 w A n xs) (i : Int) (h0 : 0 ≤ i) (h1 : i < n) : ∃ ad , A = some ad ∧ w.cell? (ad.add (i.toNat * 4)) = some (.int .i64 (rd_T22 xs i).f0) ∧ w.cell? ⟨(ad.add (i.toNat * 4)).block, (ad.add (i.toNat * 4)).off + 1, none⟩ = some (.int .i64 (rd_T22 xs i).f1) ∧ w.cell? ⟨(ad.add (i.toNat * 4)).block, (ad.add (i.toNat * 4)).off + 2, none⟩ = some (.int .i64 (rd_T22 xs i).f2) ∧ w.cell? ⟨(ad.add (i.toNat * 4)).block, (ad.add (i.toNat * 4)).off + 3, none⟩ = some (.int .i64 (rd_T22 xs i).f3) := by
 obtain ⟨ad, c, e, _, hK, hc0⟩ := Kd.C_get h z22 i h0 h1
 have hc : ∀ j u, c[j]? = some u → w.cell? (ad.add (i.toNat * 4 + j)) = some u := hc0
 obtain rfl := k22_open hK
 exact ⟨ad, e, hc 0 _ rfl, by rw [← add_field _ _ 1 (by omega)]; exact hc 1 _ rfl, by rw [← add_field _ _ 2 (by omega)]; exact hc 2 _ rfl, by rw [← add_field _ _ 3 (by omega)]; exact hc 3 _ rfl⟩
end Go.Proofs.Ytlhodfjdmafapaa.QSw
end
section
namespace Go.Proofs.Ytlhodfjdmafapaa.QSw
open Go.RowKit Go.Proofs.YtlhodfjdmafapaaW.PrintWords Go.Proofs.YtlhodfjdmafapaaW.PrintLast Go.Proofs.YtlhodfjdmafapaaW.PrintMore
attribute [local go_sem] max2_int min2_int max_two min_two max_three min_three max_four min_four   -- for this text's walks alone
set_option linter.unusedVariables false
set_option linter.unusedSimpArgs false
/-! ### laws_eqIntA4S: function 33 -/
def laws_eqIntA4S.l0 : Nat → List (S22) → List (S22) → Int → Option (Bool)
 | 0, _, _, _ => none
 | k + 1, x0, x1, x5 => if x5 < (x0.length : Int) then (if 0 ≤ x5 then (if x5 < (x1.length : Int) then ((xEqIntA4.f ((rd_T22 x0 x5).f0) ((rd_T22 x0 x5).f1) ((rd_T22 x0 x5).f2) ((rd_T22 x0 x5).f3) ((rd_T22 x1 x5).f0) ((rd_T22 x1 x5).f1) ((rd_T22 x1 x5).f2) ((rd_T22 x1 x5).f3)).bind fun t103 => (if t103 = true then (laws_eqIntA4S.l0 k x0 x1 (wrap64 (x5 + 1))) else (some false))) else (none)) else (none)) else (some true)
def laws_eqIntA4S.f (k : Nat) (l0 : List (S22)) (l1 : List (S22)) : Option (Bool) := if (l0.length : Int) = (l1.length : Int) then (laws_eqIntA4S.l0 k l0 l1 0) else (some false)
theorem laws_eqIntA4S.mono_l : ∀ k, (∀ y0 y1 y2, LeO (laws_eqIntA4S.l0 k y0 y1 y2) (laws_eqIntA4S.l0 (k + 1) y0 y1 y2))
 | 0 => fun _ _ _ r h => by simp [laws_eqIntA4S.l0] at h
 | k + 1 => by
  have ih0 := laws_eqIntA4S.mono_l k
  ·intro y0 y1 y2
   unfold laws_eqIntA4S.l0
   repeat' first
   | (with_reducible exact ih0 _ _ _)
   | (with_reducible exact LeO.refl _)
   | (with_reducible exact LeO.none _)
   | (with_reducible refine LeO.ite ?_ ?_)
   | (with_reducible refine LeO.bind ?_ (fun _ => ?_))
   | exact ih0 _ _ _
   | exact LeO.none _
   | refine LeO.ite ?_ ?_
   | refine LeO.bind ?_ (fun _ => ?_)
theorem laws_eqIntA4S.mono : ∀ a0 a1 k, LeO (laws_eqIntA4S.f k a0 a1) (laws_eqIntA4S.f (k + 1) a0 a1) := by
 intro a0 a1 k
 have ih0 := laws_eqIntA4S.mono_l k
 unfold laws_eqIntA4S.f
 repeat' first
   | (with_reducible exact ih0 _ _ _)
   | (with_reducible exact LeO.refl _)
   | (with_reducible exact LeO.none _)
   | (with_reducible refine LeO.ite ?_ ?_)
   | (with_reducible refine LeO.bind ?_ (fun _ => ?_))
   | exact ih0 _ _ _
   | exact LeO.none _
   | refine LeO.ite ?_ ?_
   | refine LeO.bind ?_ (fun _ => ?_)
def laws_eqIntA4S.T6 : Bool × List (List Nat × List Nat) := (true, [([], []), ([], []), ([0, 1], [0, 1]), ([2], [2]), ([], []), ([], []), ([4, 5], [4, 5]), ([6], [6]), ([3, 7], [3, 7]), ([8], [8])])
def laws_eqIntA4S.B6 : List Nat := [0, 0, 3, 7, 0, 0, 48, 112, 255, 511]
theorem laws_eqIntA4S.tab6 : rtab .any (opsOf Try.f33 6) = laws_eqIntA4S.T6 := by kernel_rfl
theorem laws_eqIntA4S.bits6 : waitsOk laws_eqIntA4S.T6.2 laws_eqIntA4S.B6 = true := by kernel_rfl
set_option maxHeartbeats 8000000 in
set_option maxRecDepth 100000 in
theorem laws_eqIntA4S.calls (k : Nat) (A0 : Option Addr) (c0 : Nat) (l0 : List (S22)) (A1 : Option Addr) (c1 : Nat) (l1 : List (S22)) (r : Bool) (w : World) (hr0 : Kd.C k22 w A0 l0.length l0) (hc0 : l0.length ≤ c0) (hr1 : Kd.C k22 w A1 l1.length l1) (hc1 : l1.length ≤ c1) (h : laws_eqIntA4S.f k l0 l1 = some r) :
  Calls Try.prog 33 #[.slice A0 l0.length c0, .slice A1 l1.length c1] w fun e w' => e = .returned (.bool r) ∧ Below w.heap.size w w' := by
 have hu22 := Try.underlying22
 have HR0 := Aside0.mk hr0
 have HC0 := Aside0.mk hc0
 clear hr0 hc0
 have HR1 := Aside0.mk hr1
 have HC1 := Aside0.mk hc1
 clear hr1 hc1
 have HB := Aside0.mk (Below.refl w.heap.size w)
 have H : (if (l0.length : Int) = (l1.length : Int) then (laws_eqIntA4S.l0 k l0 l1 0) else (some false)) = some r := h
 clear h
 by_cases c3 : (l0.length : Int) = (l1.length : Int)
 ·rw [if_pos c3] at H
  have c3b0 : ((l0.length : Int) == (l1.length : Int)) = true := beq_iff_eq.mpr c3
  have c3b1 : ((l0.length : Int) != (l1.length : Int)) = false := bne_eq_false_iff_eq.mpr c3
  have c3b2 : (l0.length == l1.length) = true := by first | simpa using c3 | (simp at c3 ⊢; omega)
  clear c3
  have H' := Aside0.mk H
  clear H
  go_enter Try.func33, Try.ntmps33
  go_wp2
  go_loopg [5] k (fun kq v5 w' => ∃ (x5_1 : Int), v5 = .int .i64 x5_1 ∧ Aside0 (laws_eqIntA4S.l0 kq l0 l1 x5_1 = some r) ∧ Aside0 (kq ≤ k) ∧ Aside0 (Below w.heap.size w w'))
  case atStart => exact ⟨(0), (by first | rfl | (simp; done) | (simp [*]; done)), H', ⟨Nat.le_refl _⟩, ⟨by repeat (first | (with_reducible first | exact HB.out | apply below_alloc | apply pw_below_drewN | apply below_drew1) | exact HB.out)⟩⟩
  case round =>
   clear H'
   try clear c1
   try clear p2
   try clear c3
   try clear c3b0
   try clear c3b1
   try clear c3b2
   obtain ⟨x5_1, rfl, HA, HK1, HB⟩ := hrel
   cases gk with
   | zero => exact absurd HA.out (by simp [laws_eqIntA4S.l0])
   | succ k1 =>
    have H := HA.out
    clear HA
    simp only [laws_eqIntA4S.l0] at H
    by_cases c4 : x5_1 < (l0.length : Int)
    ·rw [if_pos c4] at H
     have c4b0 : decide (x5_1 < (l0.length : Int)) = true := decide_eq_true c4
     clear c4
     by_cases c5 : 0 ≤ x5_1
     ·rw [if_pos c5] at H
      have c5b0 : decide (0 ≤ x5_1) = true := decide_eq_true c5
      clear c5
      by_cases c6 : x5_1 < (l1.length : Int)
      ·rw [if_pos c6] at H
       have c6b0 : decide (x5_1 < (l1.length : Int)) = true := decide_eq_true c6
       clear c6
       replace H := Option.bind_eq_some_iff.mp H
       obtain ⟨t103, A70, H⟩ := H
       replace H : (if t103 = true then (laws_eqIntA4S.l0 k1 l0 l1 (wrap64 (x5_1 + 1))) else (some false)) = some r := H
       have A7 := Aside0.mk A70
       clear A70
       by_cases c8 : t103 = true
       ·subst c8
        have H1 : (laws_eqIntA4S.l0 k1 l0 l1 (wrap64 (x5_1 + 1))) = some r := by rw [if_pos rfl] at H; exact H
        clear H
        have H := H1
        clear H1
        have H' := Aside0.mk H
        clear H
        try go_wp2
        have n0_ := Aside0.mk (below_drew1 HB.out)
        clear HB
        have HB := n0_
        clear n0_
        have p101 : 0 ≤ (x5_1 : Int) := of_decide_eq_true (by first | (with_reducible assumption) | assumption)
        have q101 : x5_1 < (l0.length : Int) := of_decide_eq_true (by first | (with_reducible assumption) | assumption)
        obtain ⟨ad101, e101, hx101_0, hx101_1, hx101_2, hx101_3⟩ := at_T22 HR0.out x5_1 p101 q101
        have hw101_3 := hx101_3
        have hw101_2 := hx101_2
        have hw101_1 := hx101_1
        have hw101_0 := hx101_0
        cases e101
        replace hx101_0 := (HB.out.cell (World.block_lt_of_cell? w _ hx101_0)).trans hx101_0
        replace hx101_1 := (HB.out.cell (World.block_lt_of_cell? w _ hx101_1)).trans hx101_1
        replace hx101_2 := (HB.out.cell (World.block_lt_of_cell? w _ hx101_2)).trans hx101_2
        replace hx101_3 := (HB.out.cell (World.block_lt_of_cell? w _ hx101_3)).trans hx101_3
        replace p101 := eq_true p101
        replace q101 := eq_true q101
        have p102 : 0 ≤ (x5_1 : Int) := of_decide_eq_true (by first | (with_reducible assumption) | assumption)
        have q102 : x5_1 < (l1.length : Int) := of_decide_eq_true (by first | (with_reducible assumption) | assumption)
        obtain ⟨ad102, e102, hx102_0, hx102_1, hx102_2, hx102_3⟩ := at_T22 HR1.out x5_1 p102 q102
        have hw102_3 := hx102_3
        have hw102_2 := hx102_2
        have hw102_1 := hx102_1
        have hw102_0 := hx102_0
        cases e102
        replace hx102_0 := (HB.out.cell (World.block_lt_of_cell? w _ hx102_0)).trans hx102_0
        replace hx102_1 := (HB.out.cell (World.block_lt_of_cell? w _ hx102_1)).trans hx102_1
        replace hx102_2 := (HB.out.cell (World.block_lt_of_cell? w _ hx102_2)).trans hx102_2
        replace hx102_3 := (HB.out.cell (World.block_lt_of_cell? w _ hx102_3)).trans hx102_3
        replace p102 := eq_true p102
        replace q102 := eq_true q102
        refine start_ (n := 10) (S := fun w' => w'.cell? (ad101.add ((x5_1).toNat * 4)) = some (.int .i64 ((rd_T22 l0 x5_1).f0)) ∧ w'.cell? ⟨(ad101.add ((x5_1).toNat * 4)).block, (ad101.add ((x5_1).toNat * 4)).off + 1, none⟩ = some (.int .i64 ((rd_T22 l0 x5_1).f1)) ∧ w'.cell? ⟨(ad101.add ((x5_1).toNat * 4)).block, (ad101.add ((x5_1).toNat * 4)).off + 2, none⟩ = some (.int .i64 ((rd_T22 l0 x5_1).f2)) ∧ w'.cell? ⟨(ad101.add ((x5_1).toNat * 4)).block, (ad101.add ((x5_1).toNat * 4)).off + 3, none⟩ = some (.int .i64 ((rd_T22 l0 x5_1).f3)) ∧ w'.cell? (ad102.add ((x5_1).toNat * 4)) = some (.int .i64 ((rd_T22 l1 x5_1).f0)) ∧ w'.cell? ⟨(ad102.add ((x5_1).toNat * 4)).block, (ad102.add ((x5_1).toNat * 4)).off + 1, none⟩ = some (.int .i64 ((rd_T22 l1 x5_1).f1)) ∧ w'.cell? ⟨(ad102.add ((x5_1).toNat * 4)).block, (ad102.add ((x5_1).toNat * 4)).off + 2, none⟩ = some (.int .i64 ((rd_T22 l1 x5_1).f2)) ∧ w'.cell? ⟨(ad102.add ((x5_1).toNat * 4)).block, (ad102.add ((x5_1).toNat * 4)).off + 3, none⟩ = some (.int .i64 ((rd_T22 l1 x5_1).f3))) (ds := []) #[false, false, false, false, false, false, false, false, false, false] (by kernel_rfl) rfl rfl ⟨((HB.out.cell (World.block_lt_of_cell? w _ hw101_0)).trans hw101_0), ((HB.out.cell (World.block_lt_of_cell? w _ hw101_1)).trans hw101_1), ((HB.out.cell (World.block_lt_of_cell? w _ hw101_2)).trans hw101_2), ((HB.out.cell (World.block_lt_of_cell? w _ hw101_3)).trans hw101_3), ((HB.out.cell (World.block_lt_of_cell? w _ hw102_0)).trans hw102_0), ((HB.out.cell (World.block_lt_of_cell? w _ hw102_1)).trans hw102_1), ((HB.out.cell (World.block_lt_of_cell? w _ hw102_2)).trans hw102_2), ((HB.out.cell (World.block_lt_of_cell? w _ hw102_3)).trans hw102_3)⟩ (fun hHeld => ?_); refine with_tabW laws_eqIntA4S.tab6 laws_eqIntA4S.bits6 (fun HT_ HW_ => ?_)
        generalize wr.drew = w9 at HB hx101_0 hx101_1 hx101_2 hx101_3 hx102_0 hx102_1 hx102_2 hx102_3 hHeld ⊢
        refine pure_ (i := 0) (N := some 17) (v := ?_) (a' := ?_) #[true, false, false, false, false, false, false, false, false, false] rfl rfl (any_of HT_.out (by kernel_rfl)) (fun _ _ _ h => h) (Or.inl ⟨by rfl, ?_⟩) ?_ ?_
        rotate_left
        ·intro w'
         go_simp
         with_reducible rfl
        rotate_left
        ·simp only [Act.put, List.setIfInBounds_toArray, List.set_cons_zero, List.set_cons_succ, i64_w, i32_w]
         rfl
        refine pure_ (i := 1) (N := some 18) (v := ?_) (a' := ?_) #[true, true, false, false, false, false, false, false, false, false] rfl rfl (any_of HT_.out (by kernel_rfl)) (fun _ _ _ h => h) (Or.inl ⟨by rfl, ?_⟩) ?_ ?_
        rotate_left
        ·intro w'
         go_simp
         with_reducible rfl
        rotate_left
        ·simp only [Act.put, List.setIfInBounds_toArray, List.set_cons_zero, List.set_cons_succ, i64_w, i32_w]
         rfl
        refine pure_ (i := 2) (N := some 19) (v := ?_) (a' := ?_) #[true, true, true, false, false, false, false, false, false, false] rfl rfl (any_of HT_.out (by kernel_rfl)) (fun _ _ _ h => h) (Or.inl ⟨by rfl, ?_⟩) ?_ ?_
        rotate_left
        ·intro w'
         go_simp
         with_reducible rfl
        rotate_left
        ·simp only [Act.put, List.setIfInBounds_toArray, List.set_cons_zero, List.set_cons_succ, i64_w, i32_w]
         rfl
        refine pure_ (i := 4) (N := some 21) (v := ?_) (a' := ?_) #[true, true, true, false, true, false, false, false, false, false] rfl rfl (any_of HT_.out (by kernel_rfl)) (fun _ _ _ h => h) (Or.inl ⟨by rfl, ?_⟩) ?_ ?_
        rotate_left
        ·intro w'
         go_simp
         with_reducible rfl
        rotate_left
        ·simp only [Act.put, List.setIfInBounds_toArray, List.set_cons_zero, List.set_cons_succ, i64_w, i32_w]
         rfl
        refine pure_ (i := 5) (N := some 22) (v := ?_) (a' := ?_) #[true, true, true, false, true, true, false, false, false, false] rfl rfl (any_of HT_.out (by kernel_rfl)) (fun _ _ _ h => h) (Or.inl ⟨by rfl, ?_⟩) ?_ ?_
        rotate_left
        ·intro w'
         go_simp
         with_reducible rfl
        rotate_left
        ·simp only [Act.put, List.setIfInBounds_toArray, List.set_cons_zero, List.set_cons_succ, i64_w, i32_w]
         rfl
        refine pure_ (i := 6) (N := some 23) (v := ?_) (a' := ?_) #[true, true, true, false, true, true, true, false, false, false] rfl rfl (any_of HT_.out (by kernel_rfl)) (fun _ _ _ h => h) (Or.inl ⟨by rfl, ?_⟩) ?_ ?_
        rotate_left
        ·intro w'
         go_simp
         with_reducible rfl
        rotate_left
        ·simp only [Act.put, List.setIfInBounds_toArray, List.set_cons_zero, List.set_cons_succ, i64_w, i32_w]
         rfl
        refine take_ (i := 3) (N := some 20) (v := ?_) (a' := ?_) #[true, true, true, true, true, true, true, false, false, false] rfl rfl (take_ofW HT_.out HW_.out (by kernel_rfl)) (fun _ _ _ h => h) (Or.inl ⟨by rfl, ?_⟩) hHeld ?_ ?_
        rotate_left
        ·rintro w' ⟨s0, s1, s2, s3, s4, s5, s6, s7⟩
         go_simp
         with_reducible rfl
        rotate_left
        ·simp only [Act.put, List.setIfInBounds_toArray, List.set_cons_zero, List.set_cons_succ, i64_w, i32_w]
         rfl
        refine take_ (i := 7) (N := some 24) (v := ?_) (a' := ?_) #[true, true, true, true, true, true, true, true, false, false] rfl rfl (take_ofW HT_.out HW_.out (by kernel_rfl)) (fun _ _ _ h => h) (Or.inl ⟨by rfl, ?_⟩) hHeld ?_ ?_
        rotate_left
        ·rintro w' ⟨s0, s1, s2, s3, s4, s5, s6, s7⟩
         go_simp
         with_reducible rfl
        rotate_left
        ·simp only [Act.put, List.setIfInBounds_toArray, List.set_cons_zero, List.set_cons_succ, i64_w, i32_w]
         rfl
        refine one_ (i := 8) (N := some 25) #[true, true, true, true, true, true, true, true, true, false] rfl rfl (one_of HT_.out (by kernel_rfl)) (by decide) (fun K hK => ?_)
        refine goes_ Try.func69 (by kernel_rfl) rfl #[.agg #[.int .i64 ((rd_T22 l0 x5_1).f0), .int .i64 ((rd_T22 l0 x5_1).f1), .int .i64 ((rd_T22 l0 x5_1).f2), .int .i64 ((rd_T22 l0 x5_1).f3)], .agg #[.int .i64 ((rd_T22 l1 x5_1).f0), .int .i64 ((rd_T22 l1 x5_1).f1), .int .i64 ((rd_T22 l1 x5_1).f2), .int .i64 ((rd_T22 l1 x5_1).f3)]] (by rfl) rfl rfl (by (try simp only [List.map_toArray, List.map_cons, List.map_nil]); first | done | rfl | (simp only [List.length_drop, List.length_take]; rfl)) ?_
        with_reducible refine (xEqIntA4.calls ((rd_T22 l0 x5_1).f0) ((rd_T22 l0 x5_1).f1) ((rd_T22 l0 x5_1).f2) ((rd_T22 l0 x5_1).f3) ((rd_T22 l1 x5_1).f0) ((rd_T22 l1 x5_1).f1) ((rd_T22 l1 x5_1).f2) ((rd_T22 l1 x5_1).f3) true _ A7.out).mono ?_
        rintro e w10 ⟨rfl, hb⟩
        refine ⟨_, rfl, ?_⟩
        have n0_ := Aside0.mk (below_step (by repeat (first | (with_reducible first | exact HB.out | apply below_alloc | apply pw_below_drewN | apply below_drew1) | exact HB.out)) hb)
        clear HB
        have HB := n0_
        clear n0_
        (try clear hb)
        (try clear hb2)
        (try clear hk)
        (try clear hi)
        refine hK.out _ _ ⟨((HB.out.cell (World.block_lt_of_cell? w _ hw101_0)).trans hw101_0), ((HB.out.cell (World.block_lt_of_cell? w _ hw101_1)).trans hw101_1), ((HB.out.cell (World.block_lt_of_cell? w _ hw101_2)).trans hw101_2), ((HB.out.cell (World.block_lt_of_cell? w _ hw101_3)).trans hw101_3), ((HB.out.cell (World.block_lt_of_cell? w _ hw102_0)).trans hw102_0), ((HB.out.cell (World.block_lt_of_cell? w _ hw102_1)).trans hw102_1), ((HB.out.cell (World.block_lt_of_cell? w _ hw102_2)).trans hw102_2), ((HB.out.cell (World.block_lt_of_cell? w _ hw102_3)).trans hw102_3)⟩ (fun hHeld => ?_)
        clear hK K
        refine norm_ (a' := ?_) ?_ ?_
        rotate_left
        ·show Act.put _ (some 25) _ = _
         simp only [Act.put, List.setIfInBounds_toArray, List.set_cons_zero, List.set_cons_succ, i64_w, i32_w]
         rfl
        refine pure_ (i := 9) (N := some 26) (v := ?_) (a' := ?_) #[true, true, true, true, true, true, true, true, true, true] rfl rfl (any_of HT_.out (by kernel_rfl)) (fun _ _ _ h => h) (Or.inl ⟨by rfl, ?_⟩) ?_ ?_
        rotate_left
        ·intro w'
         go_simp
         with_reducible rfl
        rotate_left
        ·simp only [Act.put, List.setIfInBounds_toArray, List.set_cons_zero, List.set_cons_succ, i64_w, i32_w]
         rfl
        refine done_ (done_of HT_.out (by kernel_rfl)) ?_
        try go_wp2
        go_roundg k1
        case measure => have := HK1.out; omega
        case rel => exact ⟨(wrap64 (x5_1 + 1)), (by first | rfl | (simp; done) | (simp [*]; done)), H', ⟨by have := HK1.out; omega⟩, ⟨by repeat (first | (with_reducible first | exact HB.out | apply below_alloc | apply pw_below_drewN | apply below_drew1) | exact HB.out)⟩⟩
       ·replace c8 := Bool.eq_false_iff.mpr c8
        subst c8
        have H1 : (some false) = some r := by rw [if_neg (show ¬ (false = true) by decide)] at H; exact H
        clear H
        have H := H1
        clear H1
        obtain rfl := Option.some.inj H
        try go_wp2
        have n0_ := Aside0.mk (below_drew1 HB.out)
        clear HB
        have HB := n0_
        clear n0_
        have p101 : 0 ≤ (x5_1 : Int) := of_decide_eq_true (by first | (with_reducible assumption) | assumption)
        have q101 : x5_1 < (l0.length : Int) := of_decide_eq_true (by first | (with_reducible assumption) | assumption)
        obtain ⟨ad101, e101, hx101_0, hx101_1, hx101_2, hx101_3⟩ := at_T22 HR0.out x5_1 p101 q101
        have hw101_3 := hx101_3
        have hw101_2 := hx101_2
        have hw101_1 := hx101_1
        have hw101_0 := hx101_0
        cases e101
        replace hx101_0 := (HB.out.cell (World.block_lt_of_cell? w _ hx101_0)).trans hx101_0
        replace hx101_1 := (HB.out.cell (World.block_lt_of_cell? w _ hx101_1)).trans hx101_1
        replace hx101_2 := (HB.out.cell (World.block_lt_of_cell? w _ hx101_2)).trans hx101_2
        replace hx101_3 := (HB.out.cell (World.block_lt_of_cell? w _ hx101_3)).trans hx101_3
        replace p101 := eq_true p101
        replace q101 := eq_true q101
        have p102 : 0 ≤ (x5_1 : Int) := of_decide_eq_true (by first | (with_reducible assumption) | assumption)
        have q102 : x5_1 < (l1.length : Int) := of_decide_eq_true (by first | (with_reducible assumption) | assumption)
        obtain ⟨ad102, e102, hx102_0, hx102_1, hx102_2, hx102_3⟩ := at_T22 HR1.out x5_1 p102 q102
        have hw102_3 := hx102_3
        have hw102_2 := hx102_2
        have hw102_1 := hx102_1
        have hw102_0 := hx102_0
        cases e102
        replace hx102_0 := (HB.out.cell (World.block_lt_of_cell? w _ hx102_0)).trans hx102_0
        replace hx102_1 := (HB.out.cell (World.block_lt_of_cell? w _ hx102_1)).trans hx102_1
        replace hx102_2 := (HB.out.cell (World.block_lt_of_cell? w _ hx102_2)).trans hx102_2
        replace hx102_3 := (HB.out.cell (World.block_lt_of_cell? w _ hx102_3)).trans hx102_3
        replace p102 := eq_true p102
        replace q102 := eq_true q102
        refine start_ (n := 10) (S := fun w' => w'.cell? (ad101.add ((x5_1).toNat * 4)) = some (.int .i64 ((rd_T22 l0 x5_1).f0)) ∧ w'.cell? ⟨(ad101.add ((x5_1).toNat * 4)).block, (ad101.add ((x5_1).toNat * 4)).off + 1, none⟩ = some (.int .i64 ((rd_T22 l0 x5_1).f1)) ∧ w'.cell? ⟨(ad101.add ((x5_1).toNat * 4)).block, (ad101.add ((x5_1).toNat * 4)).off + 2, none⟩ = some (.int .i64 ((rd_T22 l0 x5_1).f2)) ∧ w'.cell? ⟨(ad101.add ((x5_1).toNat * 4)).block, (ad101.add ((x5_1).toNat * 4)).off + 3, none⟩ = some (.int .i64 ((rd_T22 l0 x5_1).f3)) ∧ w'.cell? (ad102.add ((x5_1).toNat * 4)) = some (.int .i64 ((rd_T22 l1 x5_1).f0)) ∧ w'.cell? ⟨(ad102.add ((x5_1).toNat * 4)).block, (ad102.add ((x5_1).toNat * 4)).off + 1, none⟩ = some (.int .i64 ((rd_T22 l1 x5_1).f1)) ∧ w'.cell? ⟨(ad102.add ((x5_1).toNat * 4)).block, (ad102.add ((x5_1).toNat * 4)).off + 2, none⟩ = some (.int .i64 ((rd_T22 l1 x5_1).f2)) ∧ w'.cell? ⟨(ad102.add ((x5_1).toNat * 4)).block, (ad102.add ((x5_1).toNat * 4)).off + 3, none⟩ = some (.int .i64 ((rd_T22 l1 x5_1).f3))) (ds := []) #[false, false, false, false, false, false, false, false, false, false] (by kernel_rfl) rfl rfl ⟨((HB.out.cell (World.block_lt_of_cell? w _ hw101_0)).trans hw101_0), ((HB.out.cell (World.block_lt_of_cell? w _ hw101_1)).trans hw101_1), ((HB.out.cell (World.block_lt_of_cell? w _ hw101_2)).trans hw101_2), ((HB.out.cell (World.block_lt_of_cell? w _ hw101_3)).trans hw101_3), ((HB.out.cell (World.block_lt_of_cell? w _ hw102_0)).trans hw102_0), ((HB.out.cell (World.block_lt_of_cell? w _ hw102_1)).trans hw102_1), ((HB.out.cell (World.block_lt_of_cell? w _ hw102_2)).trans hw102_2), ((HB.out.cell (World.block_lt_of_cell? w _ hw102_3)).trans hw102_3)⟩ (fun hHeld => ?_); refine with_tabW laws_eqIntA4S.tab6 laws_eqIntA4S.bits6 (fun HT_ HW_ => ?_)
        generalize wr.drew = w11 at HB hx101_0 hx101_1 hx101_2 hx101_3 hx102_0 hx102_1 hx102_2 hx102_3 hHeld ⊢
        refine pure_ (i := 0) (N := some 17) (v := ?_) (a' := ?_) #[true, false, false, false, false, false, false, false, false, false] rfl rfl (any_of HT_.out (by kernel_rfl)) (fun _ _ _ h => h) (Or.inl ⟨by rfl, ?_⟩) ?_ ?_
        rotate_left
        ·intro w'
         go_simp
         with_reducible rfl
        rotate_left
        ·simp only [Act.put, List.setIfInBounds_toArray, List.set_cons_zero, List.set_cons_succ, i64_w, i32_w]
         rfl
        refine pure_ (i := 1) (N := some 18) (v := ?_) (a' := ?_) #[true, true, false, false, false, false, false, false, false, false] rfl rfl (any_of HT_.out (by kernel_rfl)) (fun _ _ _ h => h) (Or.inl ⟨by rfl, ?_⟩) ?_ ?_
        rotate_left
        ·intro w'
         go_simp
         with_reducible rfl
        rotate_left
        ·simp only [Act.put, List.setIfInBounds_toArray, List.set_cons_zero, List.set_cons_succ, i64_w, i32_w]
         rfl
        refine pure_ (i := 2) (N := some 19) (v := ?_) (a' := ?_) #[true, true, true, false, false, false, false, false, false, false] rfl rfl (any_of HT_.out (by kernel_rfl)) (fun _ _ _ h => h) (Or.inl ⟨by rfl, ?_⟩) ?_ ?_
        rotate_left
        ·intro w'
         go_simp
         with_reducible rfl
        rotate_left
        ·simp only [Act.put, List.setIfInBounds_toArray, List.set_cons_zero, List.set_cons_succ, i64_w, i32_w]
         rfl
        refine pure_ (i := 4) (N := some 21) (v := ?_) (a' := ?_) #[true, true, true, false, true, false, false, false, false, false] rfl rfl (any_of HT_.out (by kernel_rfl)) (fun _ _ _ h => h) (Or.inl ⟨by rfl, ?_⟩) ?_ ?_
        rotate_left
        ·intro w'
         go_simp
         with_reducible rfl
        rotate_left
        ·simp only [Act.put, List.setIfInBounds_toArray, List.set_cons_zero, List.set_cons_succ, i64_w, i32_w]
         rfl
        refine pure_ (i := 5) (N := some 22) (v := ?_) (a' := ?_) #[true, true, true, false, true, true, false, false, false, false] rfl rfl (any_of HT_.out (by kernel_rfl)) (fun _ _ _ h => h) (Or.inl ⟨by rfl, ?_⟩) ?_ ?_
        rotate_left
        ·intro w'
         go_simp
         with_reducible rfl
        rotate_left
        ·simp only [Act.put, List.setIfInBounds_toArray, List.set_cons_zero, List.set_cons_succ, i64_w, i32_w]
         rfl
        refine pure_ (i := 6) (N := some 23) (v := ?_) (a' := ?_) #[true, true, true, false, true, true, true, false, false, false] rfl rfl (any_of HT_.out (by kernel_rfl)) (fun _ _ _ h => h) (Or.inl ⟨by rfl, ?_⟩) ?_ ?_
        rotate_left
        ·intro w'
         go_simp
         with_reducible rfl
        rotate_left
        ·simp only [Act.put, List.setIfInBounds_toArray, List.set_cons_zero, List.set_cons_succ, i64_w, i32_w]
         rfl
        refine take_ (i := 3) (N := some 20) (v := ?_) (a' := ?_) #[true, true, true, true, true, true, true, false, false, false] rfl rfl (take_ofW HT_.out HW_.out (by kernel_rfl)) (fun _ _ _ h => h) (Or.inl ⟨by rfl, ?_⟩) hHeld ?_ ?_
        rotate_left
        ·rintro w' ⟨s0, s1, s2, s3, s4, s5, s6, s7⟩
         go_simp
         with_reducible rfl
        rotate_left
        ·simp only [Act.put, List.setIfInBounds_toArray, List.set_cons_zero, List.set_cons_succ, i64_w, i32_w]
         rfl
        refine take_ (i := 7) (N := some 24) (v := ?_) (a' := ?_) #[true, true, true, true, true, true, true, true, false, false] rfl rfl (take_ofW HT_.out HW_.out (by kernel_rfl)) (fun _ _ _ h => h) (Or.inl ⟨by rfl, ?_⟩) hHeld ?_ ?_
        rotate_left
        ·rintro w' ⟨s0, s1, s2, s3, s4, s5, s6, s7⟩
         go_simp
         with_reducible rfl
        rotate_left
        ·simp only [Act.put, List.setIfInBounds_toArray, List.set_cons_zero, List.set_cons_succ, i64_w, i32_w]
         rfl
        refine one_ (i := 8) (N := some 25) #[true, true, true, true, true, true, true, true, true, false] rfl rfl (one_of HT_.out (by kernel_rfl)) (by decide) (fun K hK => ?_)
        refine goes_ Try.func69 (by kernel_rfl) rfl #[.agg #[.int .i64 ((rd_T22 l0 x5_1).f0), .int .i64 ((rd_T22 l0 x5_1).f1), .int .i64 ((rd_T22 l0 x5_1).f2), .int .i64 ((rd_T22 l0 x5_1).f3)], .agg #[.int .i64 ((rd_T22 l1 x5_1).f0), .int .i64 ((rd_T22 l1 x5_1).f1), .int .i64 ((rd_T22 l1 x5_1).f2), .int .i64 ((rd_T22 l1 x5_1).f3)]] (by rfl) rfl rfl (by (try simp only [List.map_toArray, List.map_cons, List.map_nil]); first | done | rfl | (simp only [List.length_drop, List.length_take]; rfl)) ?_
        with_reducible refine (xEqIntA4.calls ((rd_T22 l0 x5_1).f0) ((rd_T22 l0 x5_1).f1) ((rd_T22 l0 x5_1).f2) ((rd_T22 l0 x5_1).f3) ((rd_T22 l1 x5_1).f0) ((rd_T22 l1 x5_1).f1) ((rd_T22 l1 x5_1).f2) ((rd_T22 l1 x5_1).f3) false _ A7.out).mono ?_
        rintro e w12 ⟨rfl, hb⟩
        refine ⟨_, rfl, ?_⟩
        have n0_ := Aside0.mk (below_step (by repeat (first | (with_reducible first | exact HB.out | apply below_alloc | apply pw_below_drewN | apply below_drew1) | exact HB.out)) hb)
        clear HB
        have HB := n0_
        clear n0_
        (try clear hb)
        (try clear hb2)
        (try clear hk)
        (try clear hi)
        refine hK.out _ _ ⟨((HB.out.cell (World.block_lt_of_cell? w _ hw101_0)).trans hw101_0), ((HB.out.cell (World.block_lt_of_cell? w _ hw101_1)).trans hw101_1), ((HB.out.cell (World.block_lt_of_cell? w _ hw101_2)).trans hw101_2), ((HB.out.cell (World.block_lt_of_cell? w _ hw101_3)).trans hw101_3), ((HB.out.cell (World.block_lt_of_cell? w _ hw102_0)).trans hw102_0), ((HB.out.cell (World.block_lt_of_cell? w _ hw102_1)).trans hw102_1), ((HB.out.cell (World.block_lt_of_cell? w _ hw102_2)).trans hw102_2), ((HB.out.cell (World.block_lt_of_cell? w _ hw102_3)).trans hw102_3)⟩ (fun hHeld => ?_)
        clear hK K
        refine norm_ (a' := ?_) ?_ ?_
        rotate_left
        ·show Act.put _ (some 25) _ = _
         simp only [Act.put, List.setIfInBounds_toArray, List.set_cons_zero, List.set_cons_succ, i64_w, i32_w]
         rfl
        refine pure_ (i := 9) (N := some 26) (v := ?_) (a' := ?_) #[true, true, true, true, true, true, true, true, true, true] rfl rfl (any_of HT_.out (by kernel_rfl)) (fun _ _ _ h => h) (Or.inl ⟨by rfl, ?_⟩) ?_ ?_
        rotate_left
        ·intro w'
         go_simp
         with_reducible rfl
        rotate_left
        ·simp only [Act.put, List.setIfInBounds_toArray, List.set_cons_zero, List.set_cons_succ, i64_w, i32_w]
         rfl
        refine done_ (done_of HT_.out (by kernel_rfl)) ?_
        try go_wp2
        go_ret
        exact ⟨by first | rfl | (simp [errW_none, errW_some] <;> rfl) | (simp [*, errW_none, errW_some] <;> rfl), by repeat (first | (with_reducible first | exact HB.out | apply below_alloc | apply pw_below_drewN | apply below_drew1) | exact HB.out)⟩
      ·rw [if_neg c6] at H
       exact absurd H (by simp)
     ·rw [if_neg c5] at H
      exact absurd H (by simp)
    ·rw [if_neg c4] at H
     have c4b0 : decide (x5_1 < (l0.length : Int)) = false := decide_eq_false c4
     clear c4
     obtain rfl := Option.some.inj H
     go_wp2
     go_ret
     exact ⟨by first | rfl | (simp [errW_none, errW_some] <;> rfl) | (simp [*, errW_none, errW_some] <;> rfl), by repeat (first | (with_reducible first | exact HB.out | apply below_alloc | apply pw_below_drewN | apply below_drew1) | exact HB.out)⟩
 ·rw [if_neg c3] at H
  have c3b0 : ((l0.length : Int) == (l1.length : Int)) = false := beq_eq_false_iff_ne.mpr c3
  have c3b1 : ((l0.length : Int) != (l1.length : Int)) = true := bne_iff_ne.mpr c3
  have c3b2 : (l0.length == l1.length) = false := by first | simpa using c3 | (simp at c3 ⊢; omega)
  obtain rfl := Option.some.inj H
  go_enter Try.func33, Try.ntmps33
  go_wp2
  go_ret
  exact ⟨by first | rfl | (simp [errW_none, errW_some] <;> rfl) | (simp [*, errW_none, errW_some] <;> rfl), by repeat (first | (with_reducible first | exact HB.out | apply below_alloc | apply pw_below_drewN | apply below_drew1) | exact HB.out)⟩
end Go.Proofs.Ytlhodfjdmafapaa.QSw
end
section
namespace Go.Proofs.Ytlhodfjdmafapaa
open Go.RowKit Go.Maps Go.Proofs.YtlhodfjdmafapaaW.PrintWords Go.Proofs.YtlhodfjdmafapaaW.PrintLast Go.Proofs.Ytlhodfjdmafapaa.QSw
set_option linter.unusedVariables false
set_option linter.unusedSimpArgs false
def to22 (x : Sd) : S22 := ⟨x.1, x.2.1, x.2.2.1, x.2.2.2⟩
theorem C_22 {w : World} {A : Option Addr} {l : List Sd} (h : Kd.C k4 w A l.length l) : Kd.C k22 w A (l.map to22).length (l.map to22) := by
 rw [List.length_map]
 refine ⟨List.length_map .., h.2.1, fun h0 => ?_⟩
 obtain ⟨ad, e, hc⟩ := h.2.2 h0
 refine ⟨ad, e, fun j p hp => ?_⟩
 rw [List.getElem?_map] at hp
 obtain ⟨y, hy, rfl⟩ := Option.map_eq_some_iff.1 hp
 exact hc j y hy
theorem eqA4_l0 (l : List Sd) (hl : l.length ≤ 923521) : ∀ (d k i : Nat), i + d = l.length → d < k → laws_eqIntA4S.l0 k (l.map to22) (l.map to22) (i : Int) = some true
 | 0, k, i, h, hk => by
  obtain ⟨k, rfl⟩ : ∃ m, k = m + 1 := ⟨k - 1, by omega⟩
  simp only [laws_eqIntA4S.l0, List.length_map]
  rw [if_neg (by omega)]
 | d + 1, k, i, h, hk => by
  obtain ⟨k, rfl⟩ : ∃ m, k = m + 1 := ⟨k - 1, by omega⟩
  have hw : wrap64 ((i : Int) + 1) = ((i + 1 : Nat) : Int) := by unfold wrap64; omega
  have he : ∀ a b c d : Int, xEqIntA4.f a b c d a b c d = some true := fun a b c d => by
   unfold xEqIntA4.f eq4B
   simp
  simp only [laws_eqIntA4S.l0, List.length_map]
  rw [if_pos (by omega), if_pos (by omega), if_pos (by omega), he, Option.bind_some, if_pos rfl, hw]
  exact eqA4_l0 l hl d k (i + 1) (by omega) (by omega)
theorem eqA4_c (l : List Sd) (hl : l.length ≤ 923521) (A : Option Addr) (c : Nat) (B : Option Addr) (d : Nat) (w : World) (h1 : Kd.C k4 w A l.length l) (h2 : l.length ≤ c) (h3 : Kd.C k4 w B l.length l) (h4 : l.length ≤ d) : Calls Try.prog 33 #[.slice A l.length c, .slice B l.length d] w fun e w' => e = .returned (.bool true) ∧ Below w.heap.size w w' := by
 have hf : laws_eqIntA4S.f (l.length + 1) (l.map to22) (l.map to22) = some true := by
  unfold laws_eqIntA4S.f
  rw [if_pos rfl]
  exact eqA4_l0 l hl l.length _ 0 (by omega) (by omega)
 have h := laws_eqIntA4S.calls (l.length + 1) A c (l.map to22) B d (l.map to22) true w (C_22 h1) (by rw [List.length_map]; exact h2) (C_22 h3) (by rw [List.length_map]; exact h4) hf
 rw [List.length_map] at h
 exact h
set_option maxRecDepth 100000 in
set_option maxHeartbeats 8000000 in
theorem lawSands (k : Nat → Int) (s0 s1 s2 s3 t : Int) (w : World) : Calls Try.prog 9 #[A4 k, .agg #[.int .i64 s0, .int .i64 s1, .int .i64 s2, .int .i64 s3], .int .i64 t] w fun e w' => e = .returned (.bool true) ∧ Below w.heap.size w w' := by
 have HSS := fun W => sandsS_any k s0 s1 s2 s3 t W
 have HSI := fun W => sandsI_any k s0 s1 s2 s3 t W
 have hl := resW_len k (s0, s1, s2, s3) t
 obtain ⟨l, hle⟩ : ∃ l, resW k (s0, s1, s2, s3) t = l := ⟨_, rfl⟩
 obtain ⟨ok, hok⟩ : ∃ ok, okW k (s0, s1, s2, s3) t = ok := ⟨_, rfl⟩
 rw [hle] at hl
 simp only [hle, hok] at HSS HSI
 clear hle hok
 go_enter Try.func9, Try.ntmps9
 go_wp2_with fail
 have HBb := Aside0.mk (show Below w.heap.size w ((w.alloc (.cells #[.int .i64 (k 0), .int .i64 (k 1), .int .i64 (k 2), .int .i64 (k 3)] 24 (0, 0))).alloc (.cells #[.int .i64 s0, .int .i64 s1, .int .i64 s2, .int .i64 s3] 22 (0, 0))) from below_alloc (below_alloc (Below.refl _ _) _) _)
 have HKb := Aside0.mk (blk_alloc (heap_alloc_new w (.cells #[.int .i64 (k 0), .int .i64 (k 1), .int .i64 (k 2), .int .i64 (k 3)] 24 (0, 0))) (.cells #[.int .i64 s0, .int .i64 s1, .int .i64 s2, .int .i64 s3] 22 (0, 0)))
 have HSb := Aside0.mk (show ((w.alloc (.cells #[.int .i64 (k 0), .int .i64 (k 1), .int .i64 (k 2), .int .i64 (k 3)] 24 (0, 0))).alloc (.cells #[.int .i64 s0, .int .i64 s1, .int .i64 s2, .int .i64 s3] 22 (0, 0))).heap[w.heap.size + 1]? = some (.cells #[.int .i64 s0, .int .i64 s1, .int .i64 s2, .int .i64 s3] 22 (0, 0)) by
  have := heap_alloc_new (w.alloc (.cells #[.int .i64 (k 0), .int .i64 (k 1), .int .i64 (k 2), .int .i64 (k 3)] 24 (0, 0))) (.cells #[.int .i64 s0, .int .i64 s1, .int .i64 s2, .int .i64 s3] 22 (0, 0))
  simpa using this)
 generalize ((w.alloc (.cells #[.int .i64 (k 0), .int .i64 (k 1), .int .i64 (k 2), .int .i64 (k 3)] 24 (0, 0))).alloc (.cells #[.int .i64 s0, .int .i64 s1, .int .i64 s2, .int .i64 s3] 22 (0, 0))) = wb at HBb HKb HSb ⊢
 have MK := Aside0.mk (show ∀ W' : World, Below wb.heap.size wb W' → (W'.cell? ⟨w.heap.size, 0, none⟩ = some (.int .i64 (k 0)) ∧ W'.cell? ⟨w.heap.size, 1, none⟩ = some (.int .i64 (k 1)) ∧ W'.cell? ⟨w.heap.size, 2, none⟩ = some (.int .i64 (k 2)) ∧ W'.cell? ⟨w.heap.size, 3, none⟩ = some (.int .i64 (k 3))) ∧ W'.cell? ⟨(w.heap.size + 1), 0, none⟩ = some (.int .i64 s0) ∧ W'.cell? ⟨(w.heap.size + 1), 1, none⟩ = some (.int .i64 s1) ∧ W'.cell? ⟨(w.heap.size + 1), 2, none⟩ = some (.int .i64 s2) ∧ W'.cell? ⟨(w.heap.size + 1), 3, none⟩ = some (.int .i64 s3) from fun W' hb =>
  have e := blk_below HKb.out hb
  have e2 := blk_below HSb.out hb
  ⟨⟨(blk_cell e 0).trans rfl, (blk_cell e 1).trans rfl, (blk_cell e 2).trans rfl, (blk_cell e 3).trans rfl⟩, (blk_cell e2 0).trans rfl, (blk_cell e2 1).trans rfl, (blk_cell e2 2).trans rfl, (blk_cell e2 3).trans rfl⟩)
 have HWB := Aside0.mk (Below.refl wb.heap.size wb)
 go_wp2_with fail
 go_cut [7, 8] (fun v7 v8 wx => ∃ (A : Option Addr) (c : Nat), v7 = .slice A l.length c ∧ v8 = .bool ok ∧ Aside0 (l.length ≤ c) ∧ Aside0 (Kd.C k4 wx A l.length l) ∧ Aside0 (Below wb.heap.size wb wx))
 case first =>
  have d0 := HWB.out
  obtain ⟨⟨m0, m1, m2, m3⟩, r0, r1, r2, r3⟩ := MK.out wb d0
  go_region_held3 (fun w' => (w'.cell? ⟨w.heap.size, 0, none⟩ = some (.int .i64 (k 0)) ∧ w'.cell? ⟨w.heap.size, 1, none⟩ = some (.int .i64 (k 1)) ∧ w'.cell? ⟨w.heap.size, 2, none⟩ = some (.int .i64 (k 2)) ∧ w'.cell? ⟨w.heap.size, 3, none⟩ = some (.int .i64 (k 3))) ∧ w'.cell? ⟨(w.heap.size + 1), 0, none⟩ = some (.int .i64 s0) ∧ w'.cell? ⟨(w.heap.size + 1), 1, none⟩ = some (.int .i64 s1) ∧ w'.cell? ⟨(w.heap.size + 1), 2, none⟩ = some (.int .i64 s2) ∧ w'.cell? ⟨(w.heap.size + 1), 3, none⟩ = some (.int .i64 s3))
   (first | (refine MK.out _ ?_; ((repeat first | (with_reducible assumption) | (with_reducible exact Below.refl _ _) | ((with_reducible refine bl_alloc _ ?_ ?_); focus (first | (simp; done) | (simp; omega) | omega | (with_reducible exact below_size (by with_reducible assumption)))) | ((with_reducible refine bl_set _ ?_ ?_); focus (first | (simp; done) | (simp; omega) | omega | (with_reducible exact below_size (by with_reducible assumption)))) | (with_reducible refine Below.drew ?_) | (with_reducible refine bl_drewN _ ?_)); done)))
   (first
    | (go_at_call 15; refine (toKit_any k _).mono ?_; rintro e w3 ⟨rfl, hb3⟩; have q3 : Below wb.heap.size wb w3 := below_chain (by ((repeat first | (with_reducible assumption) | (with_reducible exact Below.refl _ _) | ((with_reducible refine bl_alloc _ ?_ ?_); focus (first | (simp; done) | (simp; omega) | omega | (with_reducible exact below_size (by with_reducible assumption)))) | ((with_reducible refine bl_set _ ?_ ?_); focus (first | (simp; done) | (simp; omega) | omega | (with_reducible exact below_size (by with_reducible assumption)))) | (with_reducible refine Below.drew ?_) | (with_reducible refine bl_drewN _ ?_)); done)) hb3)
    | (go_at_call 18; refine (toIntA4_any (fn4 (s0, s1, s2, s3)) _).mono ?_; rintro e w4 ⟨rfl, hb4⟩; have q4 : Below wb.heap.size wb w4 := below_chain (by ((repeat first | (with_reducible assumption) | (with_reducible exact Below.refl _ _) | ((with_reducible refine bl_alloc _ ?_ ?_); focus (first | (simp; done) | (simp; omega) | omega | (with_reducible exact below_size (by with_reducible assumption)))) | ((with_reducible refine bl_set _ ?_ ?_); focus (first | (simp; done) | (simp; omega) | omega | (with_reducible exact below_size (by with_reducible assumption)))) | (with_reducible refine Below.drew ?_) | (with_reducible refine bl_drewN _ ?_)); done)) hb4)
    | (go_at_call 31; refine (HSS _).mono ?_; rintro e w5 ⟨v5, rfl, hR5, hb5⟩; have q5 : Below wb.heap.size wb w5 := below_chain (by ((repeat first | (with_reducible assumption) | (with_reducible exact Below.refl _ _) | ((with_reducible refine bl_alloc _ ?_ ?_); focus (first | (simp; done) | (simp; omega) | omega | (with_reducible exact below_size (by with_reducible assumption)))) | ((with_reducible refine bl_set _ ?_ ?_); focus (first | (simp; done) | (simp; omega) | omega | (with_reducible exact below_size (by with_reducible assumption)))) | (with_reducible refine Below.drew ?_) | (with_reducible refine bl_drewN _ ?_)); done)) hb5))
  all_goals
   go_wp2_with fail
   go_meet
   obtain ⟨A5, c5, rfl, hc5, hC5⟩ := Kd.R_reads hR5
   exact ⟨A5, c5, rfl, rfl, ⟨hc5⟩, ⟨hC5⟩, ⟨by ((repeat first | (with_reducible assumption) | (with_reducible exact Below.refl _ _) | ((with_reducible refine bl_alloc _ ?_ ?_); focus (first | (simp; done) | (simp; omega) | omega | (with_reducible exact below_size (by with_reducible assumption)))) | ((with_reducible refine bl_set _ ?_ ?_); focus (first | (simp; done) | (simp; omega) | omega | (with_reducible exact below_size (by with_reducible assumption)))) | (with_reducible refine Below.drew ?_) | (with_reducible refine bl_drewN _ ?_)); done)⟩⟩
 case rest =>
  obtain ⟨A0, c0, rfl, rfl, HG0, HC0, H1⟩ := hcut
  obtain ⟨wa, rfl⟩ : ∃ wa : World, wa = wc := ⟨_, rfl⟩
  go_wp2_with fail
  go_cut [9, 10] (fun v9 v10 wx => ∃ (A : Option Addr) (c : Nat), v9 = .slice A l.length c ∧ v10 = .bool ok ∧ Aside0 (l.length ≤ c) ∧ Aside0 (Kd.R k4 22 wx wa.heap.size (fun _ => True) (.slice A l.length c) l) ∧ Aside0 (Below wa.heap.size wa wx))
  case first =>
   have d0 := H1.out
   have d1 := Below.refl wa.heap.size wa
   have MK1 := Aside0.mk (show ∀ W' : World, Below wa.heap.size wa W' → (W'.cell? ⟨w.heap.size, 0, none⟩ = some (.int .i64 (k 0)) ∧ W'.cell? ⟨w.heap.size, 1, none⟩ = some (.int .i64 (k 1)) ∧ W'.cell? ⟨w.heap.size, 2, none⟩ = some (.int .i64 (k 2)) ∧ W'.cell? ⟨w.heap.size, 3, none⟩ = some (.int .i64 (k 3))) ∧ W'.cell? ⟨(w.heap.size + 1), 0, none⟩ = some (.int .i64 s0) ∧ W'.cell? ⟨(w.heap.size + 1), 1, none⟩ = some (.int .i64 s1) ∧ W'.cell? ⟨(w.heap.size + 1), 2, none⟩ = some (.int .i64 s2) ∧ W'.cell? ⟨(w.heap.size + 1), 3, none⟩ = some (.int .i64 s3) from fun W' hb => MK.out W' (below_chain d0 hb))
   obtain ⟨⟨m0, m1, m2, m3⟩, r0, r1, r2, r3⟩ := MK1.out wa d1
   clear d0
   go_region_held3 (fun w' => (w'.cell? ⟨w.heap.size, 0, none⟩ = some (.int .i64 (k 0)) ∧ w'.cell? ⟨w.heap.size, 1, none⟩ = some (.int .i64 (k 1)) ∧ w'.cell? ⟨w.heap.size, 2, none⟩ = some (.int .i64 (k 2)) ∧ w'.cell? ⟨w.heap.size, 3, none⟩ = some (.int .i64 (k 3))) ∧ w'.cell? ⟨(w.heap.size + 1), 0, none⟩ = some (.int .i64 s0) ∧ w'.cell? ⟨(w.heap.size + 1), 1, none⟩ = some (.int .i64 s1) ∧ w'.cell? ⟨(w.heap.size + 1), 2, none⟩ = some (.int .i64 s2) ∧ w'.cell? ⟨(w.heap.size + 1), 3, none⟩ = some (.int .i64 s3))
    (first | (refine MK1.out _ ?_; ((repeat first | (with_reducible assumption) | (with_reducible exact Below.refl _ _) | ((with_reducible refine bl_alloc _ ?_ ?_); focus (first | (simp; done) | (simp; omega) | omega | (with_reducible exact below_size (by with_reducible assumption)))) | ((with_reducible refine bl_set _ ?_ ?_); focus (first | (simp; done) | (simp; omega) | omega | (with_reducible exact below_size (by with_reducible assumption)))) | (with_reducible refine Below.drew ?_) | (with_reducible refine bl_drewN _ ?_)); done)))
    (first
     | (go_at_call 15; refine (toKit_any k _).mono ?_; rintro e w3 ⟨rfl, hb3⟩; have q3 : Below wa.heap.size wa w3 := below_chain (by ((repeat first | (with_reducible assumption) | (with_reducible exact Below.refl _ _) | ((with_reducible refine bl_alloc _ ?_ ?_); focus (first | (simp; done) | (simp; omega) | omega | (with_reducible exact below_size (by with_reducible assumption)))) | ((with_reducible refine bl_set _ ?_ ?_); focus (first | (simp; done) | (simp; omega) | omega | (with_reducible exact below_size (by with_reducible assumption)))) | (with_reducible refine Below.drew ?_) | (with_reducible refine bl_drewN _ ?_)); done)) hb3)
     | (go_at_call 18; refine (toIntA4_any (fn4 (s0, s1, s2, s3)) _).mono ?_; rintro e w4 ⟨rfl, hb4⟩; have q4 : Below wa.heap.size wa w4 := below_chain (by ((repeat first | (with_reducible assumption) | (with_reducible exact Below.refl _ _) | ((with_reducible refine bl_alloc _ ?_ ?_); focus (first | (simp; done) | (simp; omega) | omega | (with_reducible exact below_size (by with_reducible assumption)))) | ((with_reducible refine bl_set _ ?_ ?_); focus (first | (simp; done) | (simp; omega) | omega | (with_reducible exact below_size (by with_reducible assumption)))) | (with_reducible refine Below.drew ?_) | (with_reducible refine bl_drewN _ ?_)); done)) hb4)
     | (go_at_call 32; refine (HSI _).mono ?_; rintro e w5 ⟨v5, rfl, hR5, hb5⟩; have z5 : wa.heap.size ≤ w4.heap.size := below_size q4; have q5 : Below wa.heap.size wa w5 := below_chain (by ((repeat first | (with_reducible assumption) | (with_reducible exact Below.refl _ _) | ((with_reducible refine bl_alloc _ ?_ ?_); focus (first | (simp; done) | (simp; omega) | omega | (with_reducible exact below_size (by with_reducible assumption)))) | ((with_reducible refine bl_set _ ?_ ?_); focus (first | (simp; done) | (simp; omega) | omega | (with_reducible exact below_size (by with_reducible assumption)))) | (with_reducible refine Below.drew ?_) | (with_reducible refine bl_drewN _ ?_)); done)) hb5))
   all_goals
    go_wp2_with fail
    go_meet
    obtain ⟨A5, c5, rfl, hc5, hC5⟩ := Kd.R_reads hR5
    exact ⟨A5, c5, rfl, rfl, ⟨hc5⟩, ⟨Kd.R_lower hR5 z5⟩, ⟨by ((repeat first | (with_reducible assumption) | (with_reducible exact Below.refl _ _) | ((with_reducible refine bl_alloc _ ?_ ?_); focus (first | (simp; done) | (simp; omega) | omega | (with_reducible exact below_size (by with_reducible assumption)))) | ((with_reducible refine bl_set _ ?_ ?_); focus (first | (simp; done) | (simp; omega) | omega | (with_reducible exact below_size (by with_reducible assumption)))) | (with_reducible refine Below.drew ?_) | (with_reducible refine bl_drewN _ ?_)); done)⟩⟩
  case rest =>
   obtain ⟨A1, c1, rfl, rfl, HG1, HR1, H2⟩ := hcut
   obtain ⟨w2, rfl⟩ : ∃ w2 : World, w2 = wc := ⟨_, rfl⟩
   have nb : (ok != ok) = false := by cases ok <;> rfl
   have nL : decide (1 + 4 * (l.length : Int) < 0) = false := decide_eq_false (by omega)
   have HL := Aside0.mk hl
   have HE := eqA4_c l hl A1 c1 A0 c0 w2 (Kd.R_reads' HR1.out).2.2 HG1.out (Kd.C_below HC0.out H2.out) HG0.out
   go_wp2_with fail
   refine HE.mono ?_
   rintro e w3 ⟨rfl, hb3⟩
   have D3 := Aside0.mk hb3
   clear hb3 HE
   have HM := markA4_any l wa.heap.size (.slice A1 l.length c1) w3 hl (Nat.le_trans H2.out.size D3.out.size) (Kd.R_below HR1.out D3.out)
   go_wp2_with fail
   refine HM.mono ?_
   rintro e w4 ⟨rfl, hb4, _, A', cp', e2, hmk⟩
   cases e2
   have D4 := Aside0.mk hb4
   have HMK := Aside0.mk hmk
   clear hb4 hmk HM
   have HH := heldA4_any l.length hl A1 c1 HG1.out w4 (fun h => let ⟨g, cs, h1, _, h3, h4⟩ := HMK.out h; ⟨g, cs, h1, h3, h4⟩)
   go_wp2_with fail
   refine HH.mono ?_
   rintro e w5 ⟨rfl, hb5⟩
   have D5 := Aside0.mk hb5
   have HA5 := Aside0.mk (show Below wa.heap.size wa w5 from below_chain ((below_chain H2.out D3.out).trans D4.out) hb5)
   clear hb5 HH
   have HB5 := Aside0.mk (below_chain H1.out HA5.out)
   go_wp2_with fail
   go_cut [13, 14] (fun v13 v14 wx => ∃ (A : Option Addr) (c : Nat), v13 = .slice A l.length c ∧ v14 = .bool ok ∧ Aside0 (l.length ≤ c) ∧ Aside0 (Kd.C k4 wx A l.length l) ∧ Aside0 (Below w5.heap.size w5 wx))
   case first =>
    have d1 := Below.refl w5.heap.size w5
    have MK1 := Aside0.mk (show ∀ W' : World, Below w5.heap.size w5 W' → (W'.cell? ⟨w.heap.size, 0, none⟩ = some (.int .i64 (k 0)) ∧ W'.cell? ⟨w.heap.size, 1, none⟩ = some (.int .i64 (k 1)) ∧ W'.cell? ⟨w.heap.size, 2, none⟩ = some (.int .i64 (k 2)) ∧ W'.cell? ⟨w.heap.size, 3, none⟩ = some (.int .i64 (k 3))) ∧ W'.cell? ⟨(w.heap.size + 1), 0, none⟩ = some (.int .i64 s0) ∧ W'.cell? ⟨(w.heap.size + 1), 1, none⟩ = some (.int .i64 s1) ∧ W'.cell? ⟨(w.heap.size + 1), 2, none⟩ = some (.int .i64 s2) ∧ W'.cell? ⟨(w.heap.size + 1), 3, none⟩ = some (.int .i64 s3) from fun W' hb => MK.out W' (below_chain HB5.out hb))
    obtain ⟨⟨m0, m1, m2, m3⟩, r0, r1, r2, r3⟩ := MK1.out w5 d1
    go_region_held3 (fun w' => (w'.cell? ⟨w.heap.size, 0, none⟩ = some (.int .i64 (k 0)) ∧ w'.cell? ⟨w.heap.size, 1, none⟩ = some (.int .i64 (k 1)) ∧ w'.cell? ⟨w.heap.size, 2, none⟩ = some (.int .i64 (k 2)) ∧ w'.cell? ⟨w.heap.size, 3, none⟩ = some (.int .i64 (k 3))) ∧ w'.cell? ⟨(w.heap.size + 1), 0, none⟩ = some (.int .i64 s0) ∧ w'.cell? ⟨(w.heap.size + 1), 1, none⟩ = some (.int .i64 s1) ∧ w'.cell? ⟨(w.heap.size + 1), 2, none⟩ = some (.int .i64 s2) ∧ w'.cell? ⟨(w.heap.size + 1), 3, none⟩ = some (.int .i64 s3))
     (first | (refine MK1.out _ ?_; ((repeat first | (with_reducible assumption) | (with_reducible exact Below.refl _ _) | ((with_reducible refine bl_alloc _ ?_ ?_); focus (first | (simp; done) | (simp; omega) | omega | (with_reducible exact below_size (by with_reducible assumption)))) | ((with_reducible refine bl_set _ ?_ ?_); focus (first | (simp; done) | (simp; omega) | omega | (with_reducible exact below_size (by with_reducible assumption)))) | (with_reducible refine Below.drew ?_) | (with_reducible refine bl_drewN _ ?_)); done)))
     (first
      | (go_at_call 15; refine (toKit_any k _).mono ?_; rintro e w6 ⟨rfl, hb6⟩; have q6 : Below w5.heap.size w5 w6 := below_chain (by ((repeat first | (with_reducible assumption) | (with_reducible exact Below.refl _ _) | ((with_reducible refine bl_alloc _ ?_ ?_); focus (first | (simp; done) | (simp; omega) | omega | (with_reducible exact below_size (by with_reducible assumption)))) | ((with_reducible refine bl_set _ ?_ ?_); focus (first | (simp; done) | (simp; omega) | omega | (with_reducible exact below_size (by with_reducible assumption)))) | (with_reducible refine Below.drew ?_) | (with_reducible refine bl_drewN _ ?_)); done)) hb6)
      | (go_at_call 18; refine (toIntA4_any (fn4 (s0, s1, s2, s3)) _).mono ?_; rintro e w7 ⟨rfl, hb7⟩; have q7 : Below w5.heap.size w5 w7 := below_chain (by ((repeat first | (with_reducible assumption) | (with_reducible exact Below.refl _ _) | ((with_reducible refine bl_alloc _ ?_ ?_); focus (first | (simp; done) | (simp; omega) | omega | (with_reducible exact below_size (by with_reducible assumption)))) | ((with_reducible refine bl_set _ ?_ ?_); focus (first | (simp; done) | (simp; omega) | omega | (with_reducible exact below_size (by with_reducible assumption)))) | (with_reducible refine Below.drew ?_) | (with_reducible refine bl_drewN _ ?_)); done)) hb7)
      | (go_at_call 32; refine (HSI _).mono ?_; rintro e w8 ⟨v8, rfl, hR8, hb8⟩; have q8 : Below w5.heap.size w5 w8 := below_chain (by ((repeat first | (with_reducible assumption) | (with_reducible exact Below.refl _ _) | ((with_reducible refine bl_alloc _ ?_ ?_); focus (first | (simp; done) | (simp; omega) | omega | (with_reducible exact below_size (by with_reducible assumption)))) | ((with_reducible refine bl_set _ ?_ ?_); focus (first | (simp; done) | (simp; omega) | omega | (with_reducible exact below_size (by with_reducible assumption)))) | (with_reducible refine Below.drew ?_) | (with_reducible refine bl_drewN _ ?_)); done)) hb8))
    all_goals
     go_wp2_with fail
     go_meet
     obtain ⟨A5, c5, rfl, hc5, hC5⟩ := Kd.R_reads hR8
     exact ⟨A5, c5, rfl, rfl, ⟨hc5⟩, ⟨hC5⟩, ⟨by ((repeat first | (with_reducible assumption) | (with_reducible exact Below.refl _ _) | ((with_reducible refine bl_alloc _ ?_ ?_); focus (first | (simp; done) | (simp; omega) | omega | (with_reducible exact below_size (by with_reducible assumption)))) | ((with_reducible refine bl_set _ ?_ ?_); focus (first | (simp; done) | (simp; omega) | omega | (with_reducible exact below_size (by with_reducible assumption)))) | (with_reducible refine Below.drew ?_) | (with_reducible refine bl_drewN _ ?_)); done)⟩⟩
   case rest =>
    obtain ⟨A2, c2, rfl, rfl, HG2, HC2, H6⟩ := hcut
    have HE := eqA4_c l hl A2 c2 A0 c0 wc HC2.out HG2.out (Kd.C_below HC0.out (below_chain HA5.out H6.out)) HG0.out
    go_wp2_with fail
    refine HE.mono ?_
    rintro e w7 ⟨rfl, hb7⟩
    have D7 := Aside0.mk (below_chain H6.out hb7)
    clear hb7 HE
    have HH := heldA4_any l.length hl A1 c1 HG1.out w7 (fun h => let ⟨g, cs, h1, _, h3, h4⟩ := HMK.out h; ⟨g, cs, h1, blk_below h3 (below_chain D5.out D7.out), h4⟩)
    go_wp2_with fail
    refine HH.mono ?_
    rintro e w8 ⟨rfl, hb8⟩
    have HF := Aside0.mk (below_chain HBb.out (below_chain (below_chain HB5.out D7.out) hb8))
    clear hb8 HH
    go_wp2_with fail
    go_ret
    exact ⟨rfl, HF.out⟩
end Go.Proofs.Ytlhodfjdmafapaa
end
section
namespace Go.Proofs.Ytlhodfjdmafapaa.fnExactSandsWithin
open Go.ChangeShapes Go.WideShapes Go.ChangeAt Go.RowKit
set_option linter.unusedVariables false
theorem walk (k : Nat → Int) (s : Nat → Int) (t : Int) (bk : ∀ i, -9223372036854775808 ≤ k i ∧ k i ≤ 9223372036854775807) (bs : ∀ i, -9223372036854775808 ≤ s i ∧ s i ≤ 9223372036854775807) (bt : -9223372036854775808 ≤ t ∧ t ≤ 9223372036854775807) (w : World) : Calls Try.prog 9 #[A4 k, A4 s, .int .i64 t] w fun e w' => e = .returned (.bool true) ∧ Below w.heap.size w w' := by
 exact (lawSands k (s 0) (s 1) (s 2) (s 3) t w).mono fun e w' ⟨he, hb⟩ => ⟨he, hb⟩
set_option maxRecDepth 100000 in
theorem lifted (os : Os) (started : os.Started) (H : Type) (enc : TypeId × Value → H) :
  ReturnsInHanded {} Try.checked os 9 .any (Rows.fnExactSandsWithinSpec.pre6 enc Try.prog Try.f9 Rows.fnExactSandsWithinRow.domain false) (Rows.fnExactSandsWithinSpec.post enc Try.prog Try.f9 false true false false) :=
 law_lifted started own laidOut (by kernel_rfl) Try.func9 rfl
  (by intro ds h; match ds, h with | [_, _, _], _ => exact ⟨rfl, rfl, rfl⟩) (by kernel_rfl) rfl Try.underlying4
  (ChangeSpec.witness6 (enc := enc) (C := Try.checked) false ⟨#[], #[.agg #[.int .i64 0, .int .i64 0, .int .i64 0, .int .i64 0], .agg #[.int .i64 0, .int .i64 0, .int .i64 0, .int .i64 0], .int .i64 0], []⟩ 8 (by kernel_rfl) (by kernel_rfl) (by kernel_rfl) (by kernel_rfl))
  (fun W base args ds p hsz hval hA hlt hw => by
   obtain ⟨v0, v1, v2, rfl⟩ := args3 hsz
   obtain ⟨k, rfl, bk⟩ := open_flat 4 Try.underlying3 (by kernel_rfl) (by kernel_rfl) (Or.inl ⟨_, Try.underlying24⟩) (hval 0 _ _ rfl rfl)
   obtain ⟨s, rfl, bs⟩ := open_flat 4 Try.underlying3 (by kernel_rfl) (by kernel_rfl) (Or.inr ⟨_, _, Try.underlying22⟩) (hval 1 _ _ rfl rfl)
   obtain ⟨t, rfl, bt⟩ := open_i64 Try.underlying3 (hval 2 _ _ rfl rfl)
   exact walk k s t bk bs bt W)
set_option maxRecDepth 100000 in
theorem over : Rows.fnExactSandsWithinRow.holds Try.pinned (OpenSpec.ofChange Rows.fnExactSandsWithinSpec) :=
 OpenClaim.holds_of_wide 9 Try.f9 rfl rfl rfl rfl rfl rfl rfl ⟨rfl, rfl, rfl, rfl, rfl⟩ rfl rfl rfl rfl rfl (by kernel_rfl) Try.func9 (by kernel_rfl)
  (of_decide_eq_true (by kernel_rfl)) (by unfold Func.isWrapper; first | (rw [if_pos (by decide +kernel)]; kernel_rfl) | (rw [if_neg (by decide +kernel)]; exact ⟨rfl, rfl⟩))
  (fun os started H enc _ => lifted os started H enc)
end Go.Proofs.Ytlhodfjdmafapaa.fnExactSandsWithin
namespace Go.Proofs.Ytlhodfjdmafapaa
/-- The row, under a short name, for the claim. -/
theorem fnExactSandsWithin_holds : Rows.FnExactSandsWithinSaid := fnExactSandsWithin.over
end Go.Proofs.Ytlhodfjdmafapaa
end
