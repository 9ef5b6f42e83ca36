/- Texts behind a row, merged by a program of this repo. No statement of the seat is proved here. -/
import Derived.Test.YtlhodfjdmafapaaRows
import Derived.WalkKit
import Derived.ProofKit
import Derived.SizedLaws
import Derived.Below
import Derived.Test.YtlhodfjdmafapaaProg
import Derived.Deep.Draws
import Derived.Deep.AppendLies
import Derived.Maps.AppendAt
import Derived.OwnWalk
import Derived.Laws.BytesArg
import Derived.Laws.MakeOwn
import Derived.Laws.OwnMore
import Derived.Deep.OwnRows
import Derived.Tactics
import Derived.Lib.ConvBytes
import Derived.Laws.Slices
import Derived.KernelRfl
import Derived.RowKit3
import Derived.Deep.LoopGhost
import Derived.Deep.QuietTactic
import Derived.BigQuiet
import Derived.WideLaws
import Derived.Deep.DeepCutAuto
import Derived.Deep.CutBlock
import Derived.Deep.RegionHeld3
import Derived.Laws.Rows
import Derived.Lib.AppendStr
import Derived.ArgAppend
import Derived.Laws.IdiomCopy
import Derived.OrdersHeld
import Derived.Laws.BitsLemmas
import Derived.RowKit
import Derived.Test.YtlhodfjdmafapaaWWords
import Derived.Test.YtlhodfjdmafapaaWLast
import Derived.Test.YtlhodfjdmafapaaWTab
import Derived.Test.YtlhodfjdmafapaaWQPut
import Derived.Test.YtlhodfjdmafapaaWApart
import Derived.Test.YtlhodfjdmafapaaWArr
import Derived.Test.YtlhodfjdmafapaaWZeros
import Derived.Test.YtlhodfjdmafapaaWFoot
import Derived.Test.YtlhodfjdmafapaaWKept
import Derived.Test.YtlhodfjdmafapaaWShare
import Derived.Test.YtlhodfjdmafapaaWN
import Derived.Test.YtlhodfjdmafapaaWFootNe
import Derived.Test.YtlhodfjdmafapaaWAt
import Derived.Laws.StructEq
import Derived.Test.YtlhodfjdmafapaaWRepsOne
import Derived.Test.YtlhodfjdmafapaaWInv
import Derived.Test.YtlhodfjdmafapaaWInvWords
import Derived.Test.YtlhodfjdmafapaaWNEv
import Derived.Test.YtlhodfjdmafapaaWMore
import Derived.WalkSpells
import Derived.WalkLawsBesides
import Derived.Maps.RangeWalk
import Derived.Maps.OwnSet
import Derived.Maps.OwnOps
import Derived.WideKeyArr
import Derived.DeepKeys4
import Derived.DeepKeys
section
namespace Go.Proofs.Ytlhodfjdmafapaa
open Go.ChangeShapes Go.WideShapes Go.ChangeAt Go.RowKit
theorem own : ownKnob Try.prog.godebug = none := by kernel_rfl
theorem laidOut : laidOutB Try.prog = true := by kernel_rfl
section
variable {H : Type} {enc : TypeId × Value → H} {P : Program}
theorem trodAll_stays (hl : laidOutB P = true) {W W' : World} {sp' : Nat → Bool} : ∀ {ts : List TypeId} {vs : List Value} {ds : List (DataW H)} {ps : List MemPlace},
  (ts.all fun t => P.readableRec t && decide (t < P.types.size)) = true → DataW.TrodAll enc P W 0 (fun _ => true) true ts vs ds ps →
  (∀ p ∈ ps, W.sameAt W' p) → (∀ p ∈ ps, sp' p.block = true) → DataW.TrodAll enc P W' 0 sp' true ts vs ds ps
 | [], [], [], ps, _, h, _, _ => h
 | t :: ts, v :: vs, d :: ds, ps, ht, h, hs, hb => by
  obtain ⟨p, q, h1, h2, rfl⟩ := h
  simp only [List.all_cons, Bool.and_eq_true, decide_eq_true_eq] at ht
  exact ⟨p, q, WideElems.Trod_stays hl ht.1.1 ht.1.2 h1 (fun x hx => hs x (List.mem_append_left _ hx)) (fun x hx => hb x (List.mem_append_left _ hx)),
   trodAll_stays hl ht.2 h2 (fun x hx => hs x (List.mem_append_right _ hx)) (fun x hx => hb x (List.mem_append_right _ hx)), rfl⟩
 | [], [], _ :: _, _, _, h, _, _ => h.elim
 | [], _ :: _, _, _, _, h, _, _ => by cases h
 | _ :: _, [], _, _, _, h, _, _ => by cases h
 | _ :: _, _ :: _, [], _, _, h, _, _ => by cases h
end
theorem trodAll_len {H : Type} {enc : TypeId × Value → H} {P : Program} {w : World} {base : Nat} {sp : Nat → Bool} {held : Bool} : ∀ {ts : List TypeId} {vs : List Value} {ds : List (DataW H)} {ps : List MemPlace},
  DataW.TrodAll enc P w base sp held ts vs ds ps → vs.length = ts.length ∧ ds.length = ts.length
 | [], [], [], _, _ => ⟨rfl, rfl⟩
 | t :: ts, v :: vs, d :: ds, _, h => by
  obtain ⟨p, q, _, h2, _⟩ := h
  have := trodAll_len h2
  simp [this.1, this.2]
 | [], [], _ :: _, _, h => h.elim
 | [], _ :: _, _, _, h => by cases h
 | _ :: _, [], _, _, h => by cases h
 | _ :: _, _ :: _, [], _, h => by cases h
theorem law_lifted {C : Checked} {os : Os} (started : os.Started) (hown : ownKnob C.prog.godebug = none) (hlaid : laidOutB C.prog = true) {H : Type} {enc : TypeId × Value → H} {f : FuncId} {fn : Func} {s : ChangeSpec} {conds : List PathCond} {apart : Bool}
  (noInit : C.prog.inits.idxOf? f = none) (hfn : C.prog.funcs[f]? = some fn) (hsv : s.vars = [])
  (hsp : ∀ ds : List (DataW H), ds.length = fn.params.size → (s.fn H ds).results = [.lit (.bool true)] ∧ (s.fn H ds).args = ds ∧ (s.fn H ds).vars = [])
  (hpar : (fn.params.toList.all fun t => C.prog.readableRec t && decide (t < C.prog.types.size)) = true) {tb : TypeId} (hrt : fn.resultTypes = #[tb]) (htb : C.prog.underlying tb = some .bool)
  (witness : ∃ (w : World) (tape : Tape) (i : Input), w.os = os ∧ (w.forCall tape i).Shaped C.prog ∧ i.vars = [] ∧ Input.okWide C.prog (w.forCall tape i) .any w.heap.size f i ∧
   s.pre6 enc C.prog fn conds apart (w.forCall tape i).memory i.args ∧ Assume.holds {} C.prog (lone (Frame.enter C.prog f i.args .normal) [] (w.forCall tape i)))
  (walk : ∀ (W : World) (base : Nat) (args : Array Value) (ds : List (DataW H)) (p : List MemPlace), args.size = fn.params.size →
   (∀ (j : Nat) t v, fn.params[j]? = some t → args[j]? = some v → Value.okWide C.prog W .any base t v) → DataW.TrodAll enc C.prog W 0 (fun _ => true) true fn.params.toList args.toList ds p →
   (∀ x ∈ p, x.block < W.heap.size) →
   (DataW.weightsEach C.prog fn.params.toList ds).all (· ≤ reachBytes) = true → Calls C.prog f args W fun e W' => e = .returned (.bool true) ∧ Below W.heap.size W W') :
  ReturnsInHanded {} C os f .any (s.pre6 enc C.prog fn conds apart) (s.post enc C.prog fn apart true false false) := by
 refine returnsInHanded_of_change_sized (C := C) hown started noInit hfn witness ?_
 intro W base args ds gs before hval hW _ hsz _
 have hW' := hW
 obtain ⟨p, q, hA, hV, rfl, hfz, hnd⟩ := hW
 rw [hsv] at hV
 obtain ⟨rfl, rfl⟩ := trodVars_none hV
 have hlen := trodAll_len hA
 have hlt : ∀ x ∈ p, x.block < W.heap.size := fun x hx => hW'.lt x (List.mem_append_left _ hx)
 have hsz' : (DataW.weightsEach C.prog fn.params.toList ds).all (· ≤ reachBytes) = true := by
  have e : s.plain.varTypes C.prog = [] := by simp [ChangeSpec.plain, hsv, DataSpec.varTypes]
  rw [e, List.append_nil, List.append_nil] at hsz
  exact hsz
 refine (walk W base args ds p (by simpa using hlen.1) hval hA hlt hsz').mono fun e W' ⟨he, bel⟩ => ?_
 subst he
 obtain ⟨e1, e2, e3⟩ := hsp ds (by simpa using hlen.2)
 refine ⟨_, rfl, ds, [], _, [], p, [], hW', ?_, ?_, ?_, bel.frame _, fun h => by cases h⟩
 ·rw [List.append_nil, e1, hrt]; exact trodAll_mk1 (shut_bool htb _)
 ·rw [List.append_nil, e2]; exact trodAll_stays hlaid hpar hA (fun x hx => bel.same (hlt x hx)) (fun x hx => by simpa using hlt x hx)
 ·rw [List.append_nil, e3, hsv]; rfl
theorem cell_int {P : Program} {W : World} {r : Reach} {base : Nat} {e : TypeId} {v : Value} (he : P.underlying e = some (.int .i64)) (h : Cell.okWide P W r base e v) :
  ∃ n : Int, v = .int .i64 n ∧ -9223372036854775808 ≤ n ∧ n ≤ 9223372036854775807 := by
 cases v <;> simp [Cell.okWide, Cell.ok, he, IntKind.has, IntKind.min, IntKind.max, IntKind.signed, IntKind.bits] at h
 obtain ⟨rfl, h1, h2⟩ := h
 exact ⟨_, rfl, h1, h2⟩
/-- an int among the arguments -/
theorem open_i64 {P : Program} {W : World} {r : Reach} {base : Nat} {e : TypeId} {v : Value} (he : P.underlying e = some (.int .i64)) (h : Value.okWide P W r base e v) :
  ∃ n : Int, v = .int .i64 n ∧ -9223372036854775808 ≤ n ∧ n ≤ 9223372036854775807 := by
 unfold Value.okWide at h
 rw [he] at h
 exact cell_int he h
/-- an array, or a struct, of ints alone -/
theorem open_flat {P : Program} {W : World} {base : Nat} {t e : TypeId} {v : Value} (k : Nat) (he : P.underlying e = some (.int .i64)) (hty : P.cellTypes P.depth t = some (List.replicate k e)) (hc : P.cellsOf t = k)
  (hu : (∃ fs, P.underlying t = some (.struct fs)) ∨ ∃ n u, P.underlying t = some (.array n u)) (h : Value.okWide P W .any base t v) :
  ∃ g : Nat → Int, v = .agg ((List.range k).map fun i => Value.int .i64 (g i)).toArray ∧ ∀ i, -9223372036854775808 ≤ g i ∧ g i ≤ 9223372036854775807 := by
 have h2 : ∃ cs, v = .agg cs ∧ cs.size = P.cellsOf t ∧ Row.okWide P W .any base t cs := by
  unfold Value.okWide at h
  rcases hu with ⟨fs, hu⟩ | ⟨n, u, hu⟩ <;> rw [hu] at h <;> exact h
 obtain ⟨cs, rfl, hs, ts, ht, _, hcell⟩ := h2
 rw [hty] at ht
 obtain rfl : List.replicate k e = ts := Option.some.inj ht
 rw [hc] at hs
 have hx : ∀ i, i < k → ∃ n : Int, cs[i]? = some (.int .i64 n) ∧ -9223372036854775808 ≤ n ∧ n ≤ 9223372036854775807 := by
  intro i hi
  obtain ⟨u, hu, hok⟩ := hcell i cs[i] (by simp [hs, hi])
  rw [List.length_replicate, Nat.mod_eq_of_lt hi, List.getElem?_replicate, if_pos hi] at hu
  obtain rfl := Option.some.inj hu
  obtain ⟨n, hn, hb⟩ := cell_int he hok
  exact ⟨n, by rw [← hn]; simp [hs, hi], hb⟩
 refine ⟨fun i => match cs[i]? with | some (.int .i64 n) => n | _ => 0, ?_, ?_⟩
 ·congr 1
  apply Array.ext'
  apply List.ext_getElem?
  intro i
  simp only [Array.getElem?_toList, List.getElem?_map]
  by_cases hi : i < k
  ·obtain ⟨n, hn, _⟩ := hx i hi
   rw [hn, List.getElem?_range hi]
   simp [hn]
  ·rw [Array.getElem?_eq_none (by omega), List.getElem?_eq_none (by simp; omega)]
   rfl
 ·intro i
  by_cases hi : i < k
  ·obtain ⟨n, hn, hb⟩ := hx i hi
   simp only [hn]; exact hb
  ·have h0 : cs[i]? = none := Array.getElem?_eq_none (by omega)
   simp only [h0]
   omega
theorem args2 {a : Array Value} (h : a.size = 2) : ∃ v0 v1, a = #[v0, v1] := by
 obtain ⟨l⟩ := a
 match l, h with
 | [v0, v1], _ => exact ⟨v0, v1, rfl⟩
end Go.Proofs.Ytlhodfjdmafapaa
end
section
noncomputable section
namespace Go.Proofs.Ytlhodfjdmafapaa.QAll
open Go.RowKit Go.Proofs.YtlhodfjdmafapaaW.PrintWords Go.Proofs.YtlhodfjdmafapaaW.PrintLast Go.Proofs.YtlhodfjdmafapaaW.PrintMore
attribute [local go_sem] max2_int min2_int max_two min_two max_three min_three max_four min_four   -- for this text's walks alone
set_option linter.unusedVariables false
set_option linter.unusedSimpArgs false
def errW : Option Int → Value
 | none => .nilIface
 | some c => .iface 0 (.int .i64 c)
theorem errW_none : errW none = .nilIface := rfl
theorem errW_some (c : Int) : errW (some c) = .iface 0 (.int .i64 c) := rfl
theorem info3 : (Try.prog.info? 3).map (fun i => (i.zero, i.size, i.bytes)) = some (some (.int .i64 0), 1, 8) := by kernel_rfl
-- the values' own types
/-! #### struct type 22 -/
/-! #### struct type 24 -/
/-! #### struct type 27 -/
def rd_L5 (xs : List (List Int)) (i : Int) : (List Int) := xs.getD i.toNat ([] : List Int)
theorem at_L5 {w : World} {A : Option Addr} {n : Nat} {xs : List (List Int)} (h : Kd.C (Kd.slice 3 (Kd.int .i64)) w A n xs) (i : Int) (h0 : 0 ≤ i) (h1 : i < n) : ∃ ad A0 c0, A = some ad ∧ w.cell? (ad.add i.toNat) = some (.slice A0 (rd_L5 xs i).length c0) ∧ (rd_L5 xs i).length ≤ c0 ∧ (Kd.int .i64).C w A0 (rd_L5 xs i).length (rd_L5 xs i) := by
 obtain ⟨ad, c, e, _, hK, hc0⟩ := Kd.C_get h ([] : List Int) i h0 h1
 have hc : ∀ j u, c[j]? = some u → w.cell? (ad.add (i.toNat * 1 + j)) = some u := hc0
 obtain ⟨A0, c0, rfl, l0, g0⟩ := hK
 exact ⟨ad, A0, c0, e, by have hq := hc 0 _ rfl; rwa [Nat.mul_one, Nat.add_zero] at hq, l0, g0⟩
end Go.Proofs.Ytlhodfjdmafapaa.QAll
end
end
section
namespace Go.Proofs.Ytlhodfjdmafapaa
open Go.RowKit
def inB (lo hi n : Int) : Bool := decide (lo ≤ n) && decide (n ≤ hi)
theorem inB_t {lo hi n : Int} (h1 : lo ≤ n) : inB lo hi n = decide (n ≤ hi) := by simp [inB, h1]
theorem inB_f {lo hi n : Int} (h1 : n < lo) : inB lo hi n = false := by simp [inB]; omega
theorem inB_iff {lo hi n : Int} : inB lo hi n = true ↔ lo ≤ n ∧ n ≤ hi := by simp [inB]
@[simp] theorem lt_two (n : Nat) : n < n + 1 + 1 := by omega
@[simp] theorem lt_three (n : Nat) : n < n + 1 + 1 + 1 := by omega
@[simp] theorem lt_four (n : Nat) : n < n + 1 + 1 + 1 + 1 := by omega
/-- three cells of int, four, six -/
abbrev A3 (g : Nat → Int) : Value := .agg #[.int .i64 (g 0), .int .i64 (g 1), .int .i64 (g 2)]
abbrev A4 (g : Nat → Int) : Value := .agg #[.int .i64 (g 0), .int .i64 (g 1), .int .i64 (g 2), .int .i64 (g 3)]
abbrev A6 (g : Nat → Int) : Value := .agg #[.int .i64 (g 0), .int .i64 (g 1), .int .i64 (g 2), .int .i64 (g 3), .int .i64 (g 4), .int .i64 (g 5)]
theorem ret_bool {a b : Bool} (h : a = b) : Ending.returned (.bool a) = .returned (.bool b) := by rw [h]
theorem ret_int {a b : Int} (h : a = b) : Ending.returned (.int .i64 a) = .returned (.int .i64 b) := by rw [h]
theorem bcell {W w1 : World} (hb : Below W.heap.size W w1) : (∀ b o, b < W.heap.size → w1.cell? ⟨b, o, none⟩ = W.cell? ⟨b, o, none⟩) ∧ (∀ b o, b < W.heap.size → w1.frozen? ⟨b, o, none⟩ = W.frozen? ⟨b, o, none⟩) :=
 ⟨fun b o h => hb.cell (p := ⟨b, o, none⟩) h, fun b o h => hb.frozen (p := ⟨b, o, none⟩) h⟩
theorem bl_alloc {B : Nat} {a w : World} (o : Obj) (hB : B ≤ w.heap.size) (h : Below B a w) : Below B a (w.alloc o) := h.alloc hB o
theorem bl_set {B : Nat} {a w : World} {p : Addr} (u : Value) (hp : B ≤ p.block) (h : Below B a w) : Below B a (w.setCell p u) := h.setCell hp u
theorem bl_drewN {B : Nat} {a w : World} (n : Nat) (h : Below B a w) : Below B a (w.drewN n) := ⟨h.os, h.tape, h.output, h.size, h.block⟩
/-- the product of the glasses, each plus one, as the code computes it -/
def prodOf (g : Nat → Int) : Int := wrap64 (wrap64 (wrap64 (wrap64 (wrap64 (g 0 + 1)) * wrap64 (g 1 + 1)) * wrap64 (g 2 + 1)) * wrap64 (g 3 + 1))
/-- the kit is valid -/
def isKitB (g : Nat → Int) : Bool := (inB 0 30 (g 0) && inB 0 30 (g 1) && inB 0 30 (g 2) && inB 0 30 (g 3)) && (decide (0 < g 0) || decide (0 < g 1) || decide (0 < g 2) || decide (0 < g 3))
/-- each sand lies within its glass -/
def isSandB (k s : Nat → Int) : Bool := inB 0 (k 0) (s 0) && inB 0 (k 1) (s 1) && inB 0 (k 2) (s 2) && inB 0 (k 3) (s 3)
/-- the set of all places that hold something -/
def allOf (g : Nat → Int) : Int := (if 0 < g 0 then 1 else 0) + (if 0 < g 1 then 2 else 0) + (if 0 < g 2 then 4 else 0) + (if 0 < g 3 then 8 else 0)
/-- a cell that is there is there behind a call that turns nothing that was there, behind a new block, behind a draw -/
theorem keep_below {W w1 : World} {a : Addr} {v : Value} (hb : Below W.heap.size W w1) (h : W.cell? a = some v) : w1.cell? a = some v :=
 (hb.cell (World.block_lt_of_cell? W a h)).trans h
theorem there {W : World} {a : Addr} {v : Value} (h : W.cell? a = some v) : a.block < W.heap.size := World.block_lt_of_cell? W a h
theorem below_chain {w W w1 : World} (h : Below w.heap.size w W) (hb : Below W.heap.size W w1) : Below w.heap.size w w1 := h.trans (hb.mono h.size)
/-- a number is a set of glasses of a kit -/
def isSetB (k : Nat → Int) (set : Int) : Bool := inB 0 15 set && (bits BinOp.andNot IntKind.i64 set (allOf k) == 0)
/-- the four tests on a set, as the code makes them -/
def tb (set : Int) : Nat → Bool
 | 0 => bits BinOp.and IntKind.i64 set 1 == 1
 | 1 => bits BinOp.and IntKind.i64 (set / 2) 1 == 1
 | 2 => bits BinOp.and IntKind.i64 (set / 4) 1 == 1
 | _ => bits BinOp.and IntKind.i64 (set / 8) 1 == 1
def turnF (k s : Nat → Int) (set : Int) : Nat → Int := fun i => if tb set i = true then k i - s i else s i
def passF (s : Nat → Int) (d : Int) : Nat → Int := fun i => max (s i - d) 0
def nx (l n : Int) : Int := if 0 < n ∧ (l = 0 ∨ n < l) then n else l
def nextTo (s : Nat → Int) : Nat → Int
 | 0 => 0
 | j + 1 => nx (nextTo s j) (s j)
def nextF (s : Nat → Int) : Int := nextTo s 4
def stepD (k s : Nat → Int) (set : Int) : Int := nextF (turnF k s set)
def stepS (k s : Nat → Int) (set : Int) : Nat → Int := passF (turnF k s set) (stepD k s set)
/-- sand of a kit, both within their bounds -/
structure Sand (k s : Nat → Int) : Prop where
 lo : ∀ i, i < 4 → 0 ≤ s i
 hi : ∀ i, i < 4 → s i ≤ k i
 top : ∀ i, i < 4 → k i ≤ 30
theorem four {p : Nat → Prop} (h0 : p 0) (h1 : p 1) (h2 : p 2) (h3 : p 3) : ∀ i, i < 4 → p i := by
 intro i hi
 obtain rfl | rfl | rfl | rfl : i = 0 ∨ i = 1 ∨ i = 2 ∨ i = 3 := by omega
 all_goals assumption
theorem kit_bounds {k : Nat → Int} (h : isKitB k = true) : ∀ i, i < 4 → 0 ≤ k i ∧ k i ≤ 30 := by
 simp only [isKitB, Bool.and_eq_true, inB_iff] at h
 exact four h.1.1.1.1 h.1.1.1.2 h.1.1.2 h.1.2
theorem sand_of {k s : Nat → Int} (h : isKitB k = true) (h2 : isSandB k s = true) : Sand k s := by
 have hb := kit_bounds h
 simp only [isSandB, Bool.and_eq_true, inB_iff] at h2
 exact ⟨four h2.1.1.1.1 h2.1.1.2.1 h2.1.2.1 h2.2.1, four h2.1.1.1.2 h2.1.1.2.2 h2.1.2.2 h2.2.2, fun i hi => (hb i hi).2⟩
theorem Sand.turn {k s : Nat → Int} (h : Sand k s) (set : Int) : Sand k (turnF k s set) := by
 refine ⟨fun i hi => ?_, fun i hi => ?_, h.top⟩ <;> have h1 := h.lo i hi <;> have h2 := h.hi i hi <;> unfold turnF <;> split <;> omega
theorem Sand.pass {k s : Nat → Int} (h : Sand k s) {d : Int} (hd : 0 ≤ d) : Sand k (passF s d) := by
 refine ⟨fun i hi => ?_, fun i hi => ?_, h.top⟩ <;> have h1 := h.lo i hi <;> have h2 := h.hi i hi <;> unfold passF <;> omega
theorem nx_b {l n : Int} (hl : 0 ≤ l ∧ l ≤ 30) (h1 : n ≤ 30) : 0 ≤ nx l n ∧ nx l n ≤ 30 := by
 unfold nx; split <;> omega
theorem Sand.next {k s : Nat → Int} (h : Sand k s) : 0 ≤ nextF s ∧ nextF s ≤ 30 := by
 have t : ∀ i, i < 4 → s i ≤ 30 := fun i hi => by have := h.hi i hi; have := h.top i hi; omega
 exact nx_b (nx_b (nx_b (nx_b ⟨Int.le_refl 0, by simp [nextTo]⟩ (t 0 (by omega))) (t 1 (by omega))) (t 2 (by omega))) (t 3 (by omega))
theorem Sand.step {k s : Nat → Int} (h : Sand k s) (set : Int) : Sand k (stepS k s set) := (h.turn set).pass (h.turn set).next.1
theorem Sand.stepD {k s : Nat → Int} (h : Sand k s) (set : Int) : 0 ≤ stepD k s set ∧ stepD k s set ≤ 30 := (h.turn set).next
end Go.Proofs.Ytlhodfjdmafapaa
end
section
namespace Go.Proofs.Ytlhodfjdmafapaa
open Go.RowKit
set_option linter.unusedVariables false
theorem within_any (n lo hi : Int) (w : World) : Calls Try.prog 64 #[.int .i64 n, .int .i64 lo, .int .i64 hi] w fun e w' => e = .returned (.bool (inB lo hi n)) ∧ w = w' := by
 go_enter Try.func64, Try.ntmps64
 go_wp2
 ·go_ret
  exact ⟨by rw [inB_t ‹_›]; rfl, rfl⟩
 ·go_ret
  exact ⟨by rw [inB_f ‹_›]; rfl, rfl⟩
theorem l1In_any (n lo hi : Int) (w : World) : Calls Try.prog 59 #[.int .i64 n, .int .i64 lo, .int .i64 hi] w fun e w' => e = .returned (.bool (inB lo hi n)) ∧ w = w' := by
 go_enter Try.func59, Try.ntmps59
 go_wp2
 ·go_ret
  exact ⟨by rw [inB_t ‹_›]; rfl, rfl⟩
 ·go_ret
  exact ⟨by rw [inB_f ‹_›]; rfl, rfl⟩
theorem toIntA4_any (g : Nat → Int) (w : World) : Calls Try.prog 18 #[A4 g] w fun e w' => e = .returned (A4 g) ∧ Below w.heap.size w w' := by
 go_enter Try.func18, Try.ntmps18
 go_wp2
 refine wp_loop_rounds 5 ?_
 go_wp2_with (first | (rw [rounds_succ]))
 refine bodyPost_ret (v := A4 g) (by simp [results, Try.results18, go_sem]) rfl ⟨rfl, by (repeat first | (with_reducible assumption) | (with_reducible exact Below.refl _ _) | ((with_reducible refine bl_alloc _ ?_ ?_); focus (first | (simp; done) | (simp; omega) | omega)) | ((with_reducible refine bl_set _ ?_ ?_); focus (first | (simp; done) | (simp; omega) | omega)) | (with_reducible refine Below.drew ?_) | (with_reducible refine bl_drewN _ ?_))⟩
theorem toKit_any (g : Nat → Int) (w : World) : Calls Try.prog 15 #[A4 g] w fun e w' => e = .returned (A4 g) ∧ Below w.heap.size w w' := by
 go_enter Try.func15, Try.ntmps15
 go_wp2_with (first | (go_at_call 18; refine (toIntA4_any g _).mono ?_; rintro e w' ⟨rfl, hb⟩; have hB : Below w.heap.size w w' := Below.trans (by (repeat first | (with_reducible assumption) | (with_reducible exact Below.refl _ _) | ((with_reducible refine bl_alloc _ ?_ ?_); focus (first | (simp; done) | (simp; omega) | omega)) | ((with_reducible refine bl_set _ ?_ ?_); focus (first | (simp; done) | (simp; omega) | omega)) | (with_reducible refine Below.drew ?_) | (with_reducible refine bl_drewN _ ?_))) (hb.mono (by first | (simp; done) | (simp; omega) | omega)); obtain ⟨hc, hf⟩ := bcell hb; have hz := hb.size; (try simp at hz); (try have hy0 : w.heap.size < w'.heap.size := by omega); (try have hy1 : w.heap.size + 1 < w'.heap.size := by omega); (try have hy2 : w.heap.size + 1 + 1 < w'.heap.size := by omega); (try have hy3 : w.heap.size + 1 + 1 + 1 < w'.heap.size := by omega); clear hb))
 refine bodyPost_ret (v := A4 g) (by simp [results, Try.results15, go_sem, hc]) rfl ⟨rfl, by (repeat first | (with_reducible assumption) | (with_reducible exact Below.refl _ _) | ((with_reducible refine bl_alloc _ ?_ ?_); focus (first | (simp; done) | (simp; omega) | omega)) | ((with_reducible refine bl_set _ ?_ ?_); focus (first | (simp; done) | (simp; omega) | omega)) | (with_reducible refine Below.drew ?_) | (with_reducible refine bl_drewN _ ?_))⟩
theorem isKit_any (g : Nat → Int) (w : World) : Calls Try.prog 88 #[A4 g] w fun e w' => e = .returned (.bool (isKitB g)) ∧ Below w.heap.size w w' := by
 have i0 : ∀ w : World, (Instr.index 22 (A4 g) (.int .i64 0)).run Try.prog w = .ok (.int .i64 (g 0)) w := fun _ => by kernel_rfl
 have i1 : ∀ w : World, (Instr.index 22 (A4 g) (.int .i64 1)).run Try.prog w = .ok (.int .i64 (g 1)) w := fun _ => by kernel_rfl
 have i2 : ∀ w : World, (Instr.index 22 (A4 g) (.int .i64 2)).run Try.prog w = .ok (.int .i64 (g 2)) w := fun _ => by kernel_rfl
 have i3 : ∀ w : World, (Instr.index 22 (A4 g) (.int .i64 3)).run Try.prog w = .ok (.int .i64 (g 3)) w := fun _ => by kernel_rfl
 go_enter Try.func88, Try.ntmps88
 go_wp2_with fail
 refine wp_loop_rounds 5 ?_
 go_wp2_with (first | (rw [rounds_succ]) | (go_at_call 64; refine (within_any _ _ _ _).mono ?_; rintro e w' ⟨rfl, rfl⟩))
 all_goals (go_ret; exact ⟨ret_bool (by simp_all [isKitB]), by (repeat first | (with_reducible assumption) | (with_reducible exact Below.refl _ _) | ((with_reducible refine bl_alloc _ ?_ ?_); focus (first | (simp; done) | (simp; omega) | omega)) | ((with_reducible refine bl_set _ ?_ ?_); focus (first | (simp; done) | (simp; omega) | omega)) | (with_reducible refine Below.drew ?_) | (with_reducible refine bl_drewN _ ?_))⟩)
theorem l2Kit_any (g : Nat → Int) (w : World) : Calls Try.prog 76 #[A4 g] w fun e w' => e = .returned (.bool (isKitB g)) ∧ Below w.heap.size w w' := by
 go_enter Try.func76, Try.ntmps76
 go_wp2_with fail
 refine wp_loop_rounds 5 ?_
 go_wp2_with (first | (rw [rounds_succ]) | (go_at_call 59; refine (l1In_any _ _ _ _).mono ?_; rintro e w' ⟨rfl, rfl⟩))
 all_goals (go_ret; exact ⟨ret_bool (by simp_all [isKitB]), by (repeat first | (with_reducible assumption) | (with_reducible exact Below.refl _ _) | ((with_reducible refine bl_alloc _ ?_ ?_); focus (first | (simp; done) | (simp; omega) | omega)) | ((with_reducible refine bl_set _ ?_ ?_); focus (first | (simp; done) | (simp; omega) | omega)) | (with_reducible refine Below.drew ?_) | (with_reducible refine bl_drewN _ ?_))⟩)
theorem isSand_any (k s : Nat → Int) (w : World) : Calls Try.prog 89 #[A4 k, A4 s] w fun e w' => e = .returned (.bool (isSandB k s)) ∧ Below w.heap.size w w' := by
 have i0 : ∀ w : World, (Instr.index 22 (A4 s) (.int .i64 0)).run Try.prog w = .ok (.int .i64 (s 0)) w := fun _ => by kernel_rfl
 have i1 : ∀ w : World, (Instr.index 22 (A4 s) (.int .i64 1)).run Try.prog w = .ok (.int .i64 (s 1)) w := fun _ => by kernel_rfl
 have i2 : ∀ w : World, (Instr.index 22 (A4 s) (.int .i64 2)).run Try.prog w = .ok (.int .i64 (s 2)) w := fun _ => by kernel_rfl
 have i3 : ∀ w : World, (Instr.index 22 (A4 s) (.int .i64 3)).run Try.prog w = .ok (.int .i64 (s 3)) w := fun _ => by kernel_rfl
 go_enter Try.func89, Try.ntmps89
 go_wp2_with fail
 refine wp_loop_rounds 5 ?_
 go_wp2_with (first | (rw [rounds_succ]) | (go_at_call 64; refine (within_any _ _ _ _).mono ?_; rintro e w' ⟨rfl, rfl⟩))
 all_goals (go_ret; exact ⟨ret_bool (by simp_all [isSandB]), by (repeat first | (with_reducible assumption) | (with_reducible exact Below.refl _ _) | ((with_reducible refine bl_alloc _ ?_ ?_); focus (first | (simp; done) | (simp; omega) | omega)) | ((with_reducible refine bl_set _ ?_ ?_); focus (first | (simp; done) | (simp; omega) | omega)) | (with_reducible refine Below.drew ?_) | (with_reducible refine bl_drewN _ ?_))⟩)
theorem all_any (g : Nat → Int) (w : World) : Calls Try.prog 104 #[A4 g] w fun e w' => e = .returned (.int .i64 (allOf g)) ∧ Below w.heap.size w w' := by
 have i0 : ∀ w : World, (Instr.index 22 (A4 g) (.int .i64 0)).run Try.prog w = .ok (.int .i64 (g 0)) w := fun _ => by kernel_rfl
 have i1 : ∀ w : World, (Instr.index 22 (A4 g) (.int .i64 1)).run Try.prog w = .ok (.int .i64 (g 1)) w := fun _ => by kernel_rfl
 have i2 : ∀ w : World, (Instr.index 22 (A4 g) (.int .i64 2)).run Try.prog w = .ok (.int .i64 (g 2)) w := fun _ => by kernel_rfl
 have i3 : ∀ w : World, (Instr.index 22 (A4 g) (.int .i64 3)).run Try.prog w = .ok (.int .i64 (g 3)) w := fun _ => by kernel_rfl
 go_enter Try.func104, Try.ntmps104
 go_wp2_with fail
 refine wp_loop_rounds 5 ?_
 go_wp2_with (first | (rw [rounds_succ]))
 all_goals (go_ret; exact ⟨ret_int (by unfold allOf; (iterate 4 (first | rw [if_pos (by assumption)] | rw [if_neg (by omega)])); try first | rfl | decide), by (repeat first | (with_reducible assumption) | (with_reducible exact Below.refl _ _) | ((with_reducible refine bl_alloc _ ?_ ?_); focus (first | (simp; done) | (simp; omega) | omega)) | ((with_reducible refine bl_set _ ?_ ?_); focus (first | (simp; done) | (simp; omega) | omega)) | (with_reducible refine Below.drew ?_) | (with_reducible refine bl_drewN _ ?_))⟩)
theorem l2All_any (g : Nat → Int) (w : World) : Calls Try.prog 86 #[A4 g] w fun e w' => e = .returned (.int .i64 (allOf g)) ∧ Below w.heap.size w w' := by
 go_enter Try.func86, Try.ntmps86
 go_wp2_with fail
 refine wp_loop_rounds 5 ?_
 go_wp2_with (first | (rw [rounds_succ]))
 all_goals (go_ret; exact ⟨ret_int (by unfold allOf; (iterate 4 (first | rw [if_pos (by assumption)] | rw [if_neg (by omega)])); try first | rfl | decide), by (repeat first | (with_reducible assumption) | (with_reducible exact Below.refl _ _) | ((with_reducible refine bl_alloc _ ?_ ?_); focus (first | (simp; done) | (simp; omega) | omega)) | ((with_reducible refine bl_set _ ?_ ?_); focus (first | (simp; done) | (simp; omega) | omega)) | (with_reducible refine Below.drew ?_) | (with_reducible refine bl_drewN _ ?_))⟩)
theorem product_any (g : Nat → Int) (w : World) : Calls Try.prog 80 #[A4 g] w fun e w' => e = .returned (.int .i64 (prodOf g)) ∧ Below w.heap.size w w' := by
 have i0 : ∀ w : World, (Instr.index 22 (A4 g) (.int .i64 0)).run Try.prog w = .ok (.int .i64 (g 0)) w := fun _ => by kernel_rfl
 have i1 : ∀ w : World, (Instr.index 22 (A4 g) (.int .i64 1)).run Try.prog w = .ok (.int .i64 (g 1)) w := fun _ => by kernel_rfl
 have i2 : ∀ w : World, (Instr.index 22 (A4 g) (.int .i64 2)).run Try.prog w = .ok (.int .i64 (g 2)) w := fun _ => by kernel_rfl
 have i3 : ∀ w : World, (Instr.index 22 (A4 g) (.int .i64 3)).run Try.prog w = .ok (.int .i64 (g 3)) w := fun _ => by kernel_rfl
 go_enter Try.func80, Try.ntmps80
 go_wp2_with fail
 refine wp_loop_rounds 5 ?_
 go_wp2_with (first | (rw [rounds_succ]))
 all_goals (go_ret; exact ⟨ret_int (by rfl), by (repeat first | (with_reducible assumption) | (with_reducible exact Below.refl _ _) | ((with_reducible refine bl_alloc _ ?_ ?_); focus (first | (simp; done) | (simp; omega) | omega)) | ((with_reducible refine bl_set _ ?_ ?_); focus (first | (simp; done) | (simp; omega) | omega)) | (with_reducible refine Below.drew ?_) | (with_reducible refine bl_drewN _ ?_))⟩)
theorem l4Many_any (g : Nat → Int) (w : World) : Calls Try.prog 77 #[A4 g] w fun e w' => e = .returned (.int .i64 (prodOf g)) ∧ Below w.heap.size w w' := by
 go_enter Try.func77, Try.ntmps77
 go_wp2_with fail
 refine wp_loop_rounds 5 ?_
 go_wp2_with (first | (rw [rounds_succ]))
 all_goals (go_ret; exact ⟨ret_int (by rfl), by (repeat first | (with_reducible assumption) | (with_reducible exact Below.refl _ _) | ((with_reducible refine bl_alloc _ ?_ ?_); focus (first | (simp; done) | (simp; omega) | omega)) | ((with_reducible refine bl_set _ ?_ ?_); focus (first | (simp; done) | (simp; omega) | omega)) | (with_reducible refine Below.drew ?_) | (with_reducible refine bl_drewN _ ?_))⟩)
theorem l4Narrow_any (g : Nat → Int) (w : World) : Calls Try.prog 44 #[A4 g] w fun e w' => e = .returned (.bool (isKitB g && decide (prodOf g ≤ 3000))) ∧ Below w.heap.size w w' := by
 go_enter Try.func44, Try.ntmps44
 go_wp2_with (first | (go_at_call 76; refine (l2Kit_any g _).mono ?_; rintro e w' ⟨rfl, hb⟩; have hB : Below w.heap.size w w' := Below.trans (by (repeat first | (with_reducible assumption) | (with_reducible exact Below.refl _ _) | ((with_reducible refine bl_alloc _ ?_ ?_); focus (first | (simp; done) | (simp; omega) | omega)) | ((with_reducible refine bl_set _ ?_ ?_); focus (first | (simp; done) | (simp; omega) | omega)) | (with_reducible refine Below.drew ?_) | (with_reducible refine bl_drewN _ ?_))) (hb.mono (by first | (simp; done) | (simp; omega) | omega)); obtain ⟨hc, hf⟩ := bcell hb; have hz := hb.size; (try simp at hz); (try have hy0 : w.heap.size < w'.heap.size := by omega); (try have hy1 : w.heap.size + 1 < w'.heap.size := by omega); (try have hy2 : w.heap.size + 1 + 1 < w'.heap.size := by omega); (try have hy3 : w.heap.size + 1 + 1 + 1 < w'.heap.size := by omega); clear hb) | (go_at_call 77; refine (l4Many_any g _).mono ?_; rintro e w' ⟨rfl, hb⟩; have hB : Below w.heap.size w w' := Below.trans (by (repeat first | (with_reducible assumption) | (with_reducible exact Below.refl _ _) | ((with_reducible refine bl_alloc _ ?_ ?_); focus (first | (simp; done) | (simp; omega) | omega)) | ((with_reducible refine bl_set _ ?_ ?_); focus (first | (simp; done) | (simp; omega) | omega)) | (with_reducible refine Below.drew ?_) | (with_reducible refine bl_drewN _ ?_))) (hb.mono (by first | (simp; done) | (simp; omega) | omega)); obtain ⟨hc, hf⟩ := bcell hb; have hz := hb.size; (try simp at hz); (try have hy0 : w.heap.size < w'.heap.size := by omega); (try have hy1 : w.heap.size + 1 < w'.heap.size := by omega); (try have hy2 : w.heap.size + 1 + 1 < w'.heap.size := by omega); (try have hy3 : w.heap.size + 1 + 1 + 1 < w'.heap.size := by omega); clear hb))
 go_ways
 all_goals (go_ret; exact ⟨ret_bool (by simp_all), by (repeat first | (with_reducible assumption) | (with_reducible exact Below.refl _ _) | ((with_reducible refine bl_alloc _ ?_ ?_); focus (first | (simp; done) | (simp; omega) | omega)) | ((with_reducible refine bl_set _ ?_ ?_); focus (first | (simp; done) | (simp; omega) | omega)) | (with_reducible refine Below.drew ?_) | (with_reducible refine bl_drewN _ ?_))⟩)
end Go.Proofs.Ytlhodfjdmafapaa
end
section
namespace Go.Proofs.Ytlhodfjdmafapaa
open Go.RowKit
set_option linter.unusedVariables false
set_option maxHeartbeats 1600000 in
theorem turn_any (k s : Nat → Int) (set : Int) (hs : Sand k s) (w : World) : Calls Try.prog 91 #[A4 k, A4 s, .int .i64 set] w fun e w' => e = .returned (A4 (turnF k s set)) ∧ Below w.heap.size w w' := by
 obtain ⟨hlo, hhi, htop⟩ := hs
 have lo0 := hlo 0 (by omega)
 have hi0 := hhi 0 (by omega)
 have tp0 := htop 0 (by omega)
 have lo1 := hlo 1 (by omega)
 have hi1 := hhi 1 (by omega)
 have tp1 := htop 1 (by omega)
 have lo2 := hlo 2 (by omega)
 have hi2 := hhi 2 (by omega)
 have tp2 := htop 2 (by omega)
 have lo3 := hlo 3 (by omega)
 have hi3 := hhi 3 (by omega)
 have tp3 := htop 3 (by omega)
 clear hlo hhi htop
 have i0 : ∀ w : World, (Instr.index 22 (A4 k) (.int .i64 0)).run Try.prog w = .ok (.int .i64 (k 0)) w := fun _ => by kernel_rfl
 have i1 : ∀ w : World, (Instr.index 22 (A4 k) (.int .i64 1)).run Try.prog w = .ok (.int .i64 (k 1)) w := fun _ => by kernel_rfl
 have i2 : ∀ w : World, (Instr.index 22 (A4 k) (.int .i64 2)).run Try.prog w = .ok (.int .i64 (k 2)) w := fun _ => by kernel_rfl
 have i3 : ∀ w : World, (Instr.index 22 (A4 k) (.int .i64 3)).run Try.prog w = .ok (.int .i64 (k 3)) w := fun _ => by kernel_rfl
 cases t0 : (bits BinOp.and IntKind.i64 set 1 == 1) <;> cases t1 : (bits BinOp.and IntKind.i64 (set / 2) 1 == 1) <;> cases t2 : (bits BinOp.and IntKind.i64 (set / 4) 1 == 1) <;> cases t3 : (bits BinOp.and IntKind.i64 (set / 8) 1 == 1)
 all_goals
  go_enter Try.func91, Try.ntmps91
  go_wp2_with fail
  refine wp_loop_rounds 5 ?_
  go_wp2_with (first | (rw [rounds_succ]))
  refine bodyPost_ret (v := A4 (turnF k s set)) (by simp [results, Try.results91, go_sem, turnF, tb, t0, t1, t2, t3]) rfl ⟨rfl, by (repeat first | (with_reducible assumption) | (with_reducible exact Below.refl _ _) | ((with_reducible refine bl_alloc _ ?_ ?_); focus (first | (simp; done) | (simp; omega) | omega)) | ((with_reducible refine bl_set _ ?_ ?_); focus (first | (simp; done) | (simp; omega) | omega)) | (with_reducible refine Below.drew ?_) | (with_reducible refine bl_drewN _ ?_))⟩
set_option maxHeartbeats 1600000 in
theorem l2Turn_any (k s : Nat → Int) (set : Int) (hs : Sand k s) (w : World) : Calls Try.prog 83 #[A4 k, A4 s, .int .i64 set] w fun e w' => e = .returned (A4 (turnF k s set)) ∧ Below w.heap.size w w' := by
 obtain ⟨hlo, hhi, htop⟩ := hs
 have lo0 := hlo 0 (by omega)
 have hi0 := hhi 0 (by omega)
 have tp0 := htop 0 (by omega)
 have lo1 := hlo 1 (by omega)
 have hi1 := hhi 1 (by omega)
 have tp1 := htop 1 (by omega)
 have lo2 := hlo 2 (by omega)
 have hi2 := hhi 2 (by omega)
 have tp2 := htop 2 (by omega)
 have lo3 := hlo 3 (by omega)
 have hi3 := hhi 3 (by omega)
 have tp3 := htop 3 (by omega)
 clear hlo hhi htop
 cases t0 : (bits BinOp.and IntKind.i64 set 1 == 1) <;> cases t1 : (bits BinOp.and IntKind.i64 (set / 2) 1 == 1) <;> cases t2 : (bits BinOp.and IntKind.i64 (set / 4) 1 == 1) <;> cases t3 : (bits BinOp.and IntKind.i64 (set / 8) 1 == 1)
 all_goals
  go_enter Try.func83, Try.ntmps83
  go_wp2_with fail
  refine wp_loop_rounds 5 ?_
  go_wp2_with (first | (rw [rounds_succ]) | (go_region))
  refine bodyPost_ret (v := A4 (turnF k s set)) (by simp [results, Try.results83, go_sem, turnF, tb, t0, t1, t2, t3]) rfl ⟨rfl, by (repeat first | (with_reducible assumption) | (with_reducible exact Below.refl _ _) | ((with_reducible refine bl_alloc _ ?_ ?_); focus (first | (simp; done) | (simp; omega) | omega)) | ((with_reducible refine bl_set _ ?_ ?_); focus (first | (simp; done) | (simp; omega) | omega)) | (with_reducible refine Below.drew ?_) | (with_reducible refine bl_drewN _ ?_))⟩
end Go.Proofs.Ytlhodfjdmafapaa
end
section
namespace Go.Proofs.Ytlhodfjdmafapaa
open Go.RowKit
set_option linter.unusedVariables false
theorem l1Most_any (a b : Int) (w : World) : Calls Try.prog 51 #[.int .i64 a, .int .i64 b] w fun e w' => e = .returned (.int .i64 (max a b)) ∧ w = w' := by
 go_enter Try.func51, Try.ntmps51
 go_wp2
 all_goals (go_ret; exact ⟨ret_int (by show _ = max a b; omega), rfl⟩)
theorem isSet_any (k : Nat → Int) (set : Int) (w : World) : Calls Try.prog 90 #[A4 k, .int .i64 set] w fun e w' => e = .returned (.bool (isSetB k set)) ∧ Below w.heap.size w w' := by
 go_enter Try.func90, Try.ntmps90
 go_wp2_with (first | (go_at_call 64; refine (within_any _ _ _ _).mono ?_; rintro e w' ⟨rfl, rfl⟩) | (go_at_call 104; refine (all_any k _).mono ?_; rintro e w' ⟨rfl, hb⟩; have hB : Below w.heap.size w w' := Below.trans (by (repeat first | (with_reducible assumption) | (with_reducible exact Below.refl _ _) | ((with_reducible refine bl_alloc _ ?_ ?_); focus (first | (simp; done) | (simp; omega) | omega)) | ((with_reducible refine bl_set _ ?_ ?_); focus (first | (simp; done) | (simp; omega) | omega)) | (with_reducible refine Below.drew ?_) | (with_reducible refine bl_drewN _ ?_))) (hb.mono (by first | (simp; done) | (simp; omega) | omega)); obtain ⟨hc, hf⟩ := bcell hb; have hz := hb.size; (try simp at hz); (try have hy0 : w.heap.size < w'.heap.size := by omega); (try have hy1 : w.heap.size + 1 < w'.heap.size := by omega); (try have hy2 : w.heap.size + 1 + 1 < w'.heap.size := by omega); (try have hy3 : w.heap.size + 1 + 1 + 1 < w'.heap.size := by omega); clear hb))
 all_goals (go_ret; exact ⟨ret_bool (by simp_all [isSetB]), by (repeat first | (with_reducible assumption) | (with_reducible exact Below.refl _ _) | ((with_reducible refine bl_alloc _ ?_ ?_); focus (first | (simp; done) | (simp; omega) | omega)) | ((with_reducible refine bl_set _ ?_ ?_); focus (first | (simp; done) | (simp; omega) | omega)) | (with_reducible refine Below.drew ?_) | (with_reducible refine bl_drewN _ ?_))⟩)
theorem l2Set_any (k : Nat → Int) (set : Int) (w : World) : Calls Try.prog 61 #[A4 k, .int .i64 set] w fun e w' => e = .returned (.bool (isSetB k set)) ∧ Below w.heap.size w w' := by
 go_enter Try.func61, Try.ntmps61
 go_wp2_with (first | (go_at_call 59; refine (l1In_any _ _ _ _).mono ?_; rintro e w' ⟨rfl, rfl⟩) | (go_at_call 86; refine (l2All_any k _).mono ?_; rintro e w' ⟨rfl, hb⟩; have hB : Below w.heap.size w w' := Below.trans (by (repeat first | (with_reducible assumption) | (with_reducible exact Below.refl _ _) | ((with_reducible refine bl_alloc _ ?_ ?_); focus (first | (simp; done) | (simp; omega) | omega)) | ((with_reducible refine bl_set _ ?_ ?_); focus (first | (simp; done) | (simp; omega) | omega)) | (with_reducible refine Below.drew ?_) | (with_reducible refine bl_drewN _ ?_))) (hb.mono (by first | (simp; done) | (simp; omega) | omega)); obtain ⟨hc, hf⟩ := bcell hb; have hz := hb.size; (try simp at hz); (try have hy0 : w.heap.size < w'.heap.size := by omega); (try have hy1 : w.heap.size + 1 < w'.heap.size := by omega); (try have hy2 : w.heap.size + 1 + 1 < w'.heap.size := by omega); (try have hy3 : w.heap.size + 1 + 1 + 1 < w'.heap.size := by omega); clear hb))
 all_goals (go_ret; exact ⟨ret_bool (by simp_all [isSetB]), by (repeat first | (with_reducible assumption) | (with_reducible exact Below.refl _ _) | ((with_reducible refine bl_alloc _ ?_ ?_); focus (first | (simp; done) | (simp; omega) | omega)) | ((with_reducible refine bl_set _ ?_ ?_); focus (first | (simp; done) | (simp; omega) | omega)) | (with_reducible refine Below.drew ?_) | (with_reducible refine bl_drewN _ ?_))⟩)
set_option maxHeartbeats 1600000 in
theorem pass_any (k s : Nat → Int) (d : Int) (hs : Sand k s) (hd : 0 ≤ d) (w : World) : Calls Try.prog 93 #[A4 s, .int .i64 d] w fun e w' => e = .returned (A4 (passF s d)) ∧ Below w.heap.size w w' := by
 obtain ⟨hlo, hhi, htop⟩ := hs
 have lo0 := hlo 0 (by omega)
 have hi0 := hhi 0 (by omega)
 have tp0 := htop 0 (by omega)
 have lo1 := hlo 1 (by omega)
 have hi1 := hhi 1 (by omega)
 have tp1 := htop 1 (by omega)
 have lo2 := hlo 2 (by omega)
 have hi2 := hhi 2 (by omega)
 have tp2 := htop 2 (by omega)
 have lo3 := hlo 3 (by omega)
 have hi3 := hhi 3 (by omega)
 have tp3 := htop 3 (by omega)
 clear hlo hhi htop
 have i0 : ∀ w : World, (Instr.index 22 (A4 s) (.int .i64 0)).run Try.prog w = .ok (.int .i64 (s 0)) w := fun _ => by kernel_rfl
 have i1 : ∀ w : World, (Instr.index 22 (A4 s) (.int .i64 1)).run Try.prog w = .ok (.int .i64 (s 1)) w := fun _ => by kernel_rfl
 have i2 : ∀ w : World, (Instr.index 22 (A4 s) (.int .i64 2)).run Try.prog w = .ok (.int .i64 (s 2)) w := fun _ => by kernel_rfl
 have i3 : ∀ w : World, (Instr.index 22 (A4 s) (.int .i64 3)).run Try.prog w = .ok (.int .i64 (s 3)) w := fun _ => by kernel_rfl
 go_enter Try.func93, Try.ntmps93
 go_wp2_with fail
 refine wp_loop_rounds 5 ?_
 go_wp2_with (first | (rw [rounds_succ]))
 all_goals (refine bodyPost_ret (v := A4 (passF s d)) (by simp [results, Try.results93, go_sem, passF]; omega) rfl ⟨rfl, by (repeat first | (with_reducible assumption) | (with_reducible exact Below.refl _ _) | ((with_reducible refine bl_alloc _ ?_ ?_); focus (first | (simp; done) | (simp; omega) | omega)) | ((with_reducible refine bl_set _ ?_ ?_); focus (first | (simp; done) | (simp; omega) | omega)) | (with_reducible refine Below.drew ?_) | (with_reducible refine bl_drewN _ ?_))⟩)
theorem l2Pass_any (k s : Nat → Int) (d : Int) (hs : Sand k s) (hd : 0 ≤ d) (hd2 : d ≤ 30) (w : World) : Calls Try.prog 85 #[A4 s, .int .i64 d] w fun e w' => e = .returned (A4 (passF s d)) ∧ Below w.heap.size w w' := by
 obtain ⟨hlo, hhi, htop⟩ := hs
 have lo0 := hlo 0 (by omega)
 have hi0 := hhi 0 (by omega)
 have tp0 := htop 0 (by omega)
 have lo1 := hlo 1 (by omega)
 have hi1 := hhi 1 (by omega)
 have tp1 := htop 1 (by omega)
 have lo2 := hlo 2 (by omega)
 have hi2 := hhi 2 (by omega)
 have tp2 := htop 2 (by omega)
 have lo3 := hlo 3 (by omega)
 have hi3 := hhi 3 (by omega)
 have tp3 := htop 3 (by omega)
 clear hlo hhi htop
 go_enter Try.func85, Try.ntmps85
 go_wp2_with fail
 refine wp_loop_rounds 5 ?_
 go_wp2_with (first | (rw [rounds_succ]) | (go_at_call 51; refine (l1Most_any _ _ _).mono ?_; rintro e w' ⟨rfl, rfl⟩))
 refine bodyPost_ret (v := A4 (passF s d)) (by simp [results, Try.results85, go_sem, passF]) rfl ⟨rfl, by (repeat first | (with_reducible assumption) | (with_reducible exact Below.refl _ _) | ((with_reducible refine bl_alloc _ ?_ ?_); focus (first | (simp; done) | (simp; omega) | omega)) | ((with_reducible refine bl_set _ ?_ ?_); focus (first | (simp; done) | (simp; omega) | omega)) | (with_reducible refine Below.drew ?_) | (with_reducible refine bl_drewN _ ?_))⟩
theorem next_any (s : Nat → Int) (w : World) : Calls Try.prog 92 #[A4 s] w fun e w' => e = .returned (.int .i64 (nextF s)) ∧ Below w.heap.size w w' := by
 have i0 : ∀ w : World, (Instr.index 22 (A4 s) (.int .i64 0)).run Try.prog w = .ok (.int .i64 (s 0)) w := fun _ => by kernel_rfl
 have i1 : ∀ w : World, (Instr.index 22 (A4 s) (.int .i64 1)).run Try.prog w = .ok (.int .i64 (s 1)) w := fun _ => by kernel_rfl
 have i2 : ∀ w : World, (Instr.index 22 (A4 s) (.int .i64 2)).run Try.prog w = .ok (.int .i64 (s 2)) w := fun _ => by kernel_rfl
 have i3 : ∀ w : World, (Instr.index 22 (A4 s) (.int .i64 3)).run Try.prog w = .ok (.int .i64 (s 3)) w := fun _ => by kernel_rfl
 go_enter Try.func92, Try.ntmps92
 go_wp2_with fail
 go_loop [3, 7] (fun l i => ∃ j : Nat, j ≤ 4 ∧ i = .int .i64 j ∧ l = .int .i64 (nextTo s j)) (fun _ i => 4 - (intOf i).toNat)
 case atStart => exact ⟨0, by omega, rfl, rfl⟩
 case round =>
  obtain ⟨j, hj, rfl, rfl⟩ := hrel
  generalize hl : nextTo s j = l at *
  have HL : Hid (nextTo s j = l) := hl
  clear hl
  obtain rfl | rfl | rfl | rfl | rfl : j = 0 ∨ j = 1 ∨ j = 2 ∨ j = 3 ∨ j = 4 := by omega
  ·go_wp2
   all_goals
    go_round
    case rel => exact ⟨0+1, by omega, by go_num, by rw [nextTo, HL.out]; unfold nx; congr 1; first | (rw [if_pos (by first | omega | (simp only [beq_iff_eq] at *; omega) | (simp only [beq_eq_false_iff_ne, ne_eq] at *; omega))]) | (rw [if_neg (by first | omega | (simp only [beq_iff_eq] at *; omega) | (simp only [beq_eq_false_iff_ne, ne_eq] at *; omega))])⟩
    case measure => simp [intOf]
  ·go_wp2
   all_goals
    go_round
    case rel => exact ⟨1+1, by omega, by go_num, by rw [nextTo, HL.out]; unfold nx; congr 1; first | (rw [if_pos (by first | omega | (simp only [beq_iff_eq] at *; omega) | (simp only [beq_eq_false_iff_ne, ne_eq] at *; omega))]) | (rw [if_neg (by first | omega | (simp only [beq_iff_eq] at *; omega) | (simp only [beq_eq_false_iff_ne, ne_eq] at *; omega))])⟩
    case measure => simp [intOf]
  ·go_wp2
   all_goals
    go_round
    case rel => exact ⟨2+1, by omega, by go_num, by rw [nextTo, HL.out]; unfold nx; congr 1; first | (rw [if_pos (by first | omega | (simp only [beq_iff_eq] at *; omega) | (simp only [beq_eq_false_iff_ne, ne_eq] at *; omega))]) | (rw [if_neg (by first | omega | (simp only [beq_iff_eq] at *; omega) | (simp only [beq_eq_false_iff_ne, ne_eq] at *; omega))])⟩
    case measure => simp [intOf]
  ·go_wp2
   all_goals
    go_round
    case rel => exact ⟨3+1, by omega, by go_num, by rw [nextTo, HL.out]; unfold nx; congr 1; first | (rw [if_pos (by first | omega | (simp only [beq_iff_eq] at *; omega) | (simp only [beq_eq_false_iff_ne, ne_eq] at *; omega))]) | (rw [if_neg (by first | omega | (simp only [beq_iff_eq] at *; omega) | (simp only [beq_eq_false_iff_ne, ne_eq] at *; omega))])⟩
    case measure => simp [intOf]
  ·go_wp2
   go_ret
   exact ⟨ret_int HL.out.symm, by (repeat first | (with_reducible assumption) | (with_reducible exact Below.refl _ _) | ((with_reducible refine bl_alloc _ ?_ ?_); focus (first | (simp; done) | (simp; omega) | omega)) | ((with_reducible refine bl_set _ ?_ ?_); focus (first | (simp; done) | (simp; omega) | omega)) | (with_reducible refine Below.drew ?_) | (with_reducible refine bl_drewN _ ?_))⟩
theorem l2Next_any (s : Nat → Int) (w : World) : Calls Try.prog 84 #[A4 s] w fun e w' => e = .returned (.int .i64 (nextF s)) ∧ Below w.heap.size w w' := by
 go_enter Try.func84, Try.ntmps84
 go_wp2_with fail
 go_loopw [3, 4] (fun l i wr => ∃ j : Nat, j ≤ 4 ∧ i = .int .i64 j ∧ l = .int .i64 (nextTo s j) ∧ Below w.heap.size w wr ∧ wr.cell? ⟨w.heap.size, 0, none⟩ = some (.int .i64 (s 0)) ∧ wr.cell? ⟨w.heap.size, 1, none⟩ = some (.int .i64 (s 1)) ∧ wr.cell? ⟨w.heap.size, 2, none⟩ = some (.int .i64 (s 2)) ∧ wr.cell? ⟨w.heap.size, 3, none⟩ = some (.int .i64 (s 3))) (fun _ i _ => 4 - (intOf i).toNat)
 case atStart => exact ⟨0, by omega, rfl, rfl, (Below.refl _ _).alloc (Nat.le_refl _) _, by simp, by simp, by simp, by simp⟩
 case round =>
  obtain ⟨j, hj, rfl, rfl, hB, c0, c1, c2, c3⟩ := hrel
  generalize hl : nextTo s j = l at *
  have HL : Hid (nextTo s j = l) := hl
  clear hl
  obtain rfl | rfl | rfl | rfl | rfl : j = 0 ∨ j = 1 ∨ j = 2 ∨ j = 3 ∨ j = 4 := by omega
  ·by_cases p1 : 0 < s 0
   ·have b1 : decide (0 < s 0) = true := by simpa using p1
    by_cases p2 : l = 0
    ·have b2 : (l == 0) = true := by simpa using p2
     have p2' : l ≤ 0 ∧ 0 ≤ l := by omega
     clear p2
     go_wp2_with (first | (go_quiet (fail)))
     all_goals
     go_roundw
     case rel => exact ⟨0+1, by omega, by go_num, by rw [nextTo, HL.out]; unfold nx; congr 1; first | (rw [if_pos (by omega)]) | (rw [if_neg (by omega)]), by (repeat first | (with_reducible assumption) | (with_reducible exact Below.refl _ _) | ((with_reducible refine bl_alloc _ ?_ ?_); focus (first | (simp; done) | (simp; omega) | omega)) | ((with_reducible refine bl_set _ ?_ ?_); focus (first | (simp; done) | (simp; omega) | omega)) | (with_reducible refine Below.drew ?_) | (with_reducible refine bl_drewN _ ?_)), by simpa using c0, by simpa using c1, by simpa using c2, by simpa using c3⟩
     case measure => simp [intOf]
    ·have b2 : (l == 0) = false := by simpa using p2
     by_cases p3 : s 0 < l
     ·have b3 : decide (s 0 < l) = true := by simpa using p3
      go_wp2_with (first | (go_quiet (fail)))
      all_goals
      go_roundw
      case rel => exact ⟨0+1, by omega, by go_num, by rw [nextTo, HL.out]; unfold nx; congr 1; first | (rw [if_pos (by omega)]) | (rw [if_neg (by omega)]), by (repeat first | (with_reducible assumption) | (with_reducible exact Below.refl _ _) | ((with_reducible refine bl_alloc _ ?_ ?_); focus (first | (simp; done) | (simp; omega) | omega)) | ((with_reducible refine bl_set _ ?_ ?_); focus (first | (simp; done) | (simp; omega) | omega)) | (with_reducible refine Below.drew ?_) | (with_reducible refine bl_drewN _ ?_)), by simpa using c0, by simpa using c1, by simpa using c2, by simpa using c3⟩
      case measure => simp [intOf]
     ·have b3 : decide (s 0 < l) = false := by simpa using p3
      go_wp2_with (first | (go_quiet (fail)))
      all_goals
      go_roundw
      case rel => exact ⟨0+1, by omega, by go_num, by rw [nextTo, HL.out]; unfold nx; congr 1; first | (rw [if_pos (by omega)]) | (rw [if_neg (by omega)]), by (repeat first | (with_reducible assumption) | (with_reducible exact Below.refl _ _) | ((with_reducible refine bl_alloc _ ?_ ?_); focus (first | (simp; done) | (simp; omega) | omega)) | ((with_reducible refine bl_set _ ?_ ?_); focus (first | (simp; done) | (simp; omega) | omega)) | (with_reducible refine Below.drew ?_) | (with_reducible refine bl_drewN _ ?_)), by simpa using c0, by simpa using c1, by simpa using c2, by simpa using c3⟩
      case measure => simp [intOf]
   ·have b1 : decide (0 < s 0) = false := by simpa using p1
    go_wp2_with (first | (go_quiet (fail)))
    all_goals
    go_roundw
    case rel => exact ⟨0+1, by omega, by go_num, by rw [nextTo, HL.out]; unfold nx; congr 1; first | (rw [if_pos (by omega)]) | (rw [if_neg (by omega)]), by (repeat first | (with_reducible assumption) | (with_reducible exact Below.refl _ _) | ((with_reducible refine bl_alloc _ ?_ ?_); focus (first | (simp; done) | (simp; omega) | omega)) | ((with_reducible refine bl_set _ ?_ ?_); focus (first | (simp; done) | (simp; omega) | omega)) | (with_reducible refine Below.drew ?_) | (with_reducible refine bl_drewN _ ?_)), by simpa using c0, by simpa using c1, by simpa using c2, by simpa using c3⟩
    case measure => simp [intOf]
  ·by_cases p1 : 0 < s 1
   ·have b1 : decide (0 < s 1) = true := by simpa using p1
    by_cases p2 : l = 0
    ·have b2 : (l == 0) = true := by simpa using p2
     have p2' : l ≤ 0 ∧ 0 ≤ l := by omega
     clear p2
     go_wp2_with (first | (go_quiet (fail)))
     all_goals
     go_roundw
     case rel => exact ⟨1+1, by omega, by go_num, by rw [nextTo, HL.out]; unfold nx; congr 1; first | (rw [if_pos (by omega)]) | (rw [if_neg (by omega)]), by (repeat first | (with_reducible assumption) | (with_reducible exact Below.refl _ _) | ((with_reducible refine bl_alloc _ ?_ ?_); focus (first | (simp; done) | (simp; omega) | omega)) | ((with_reducible refine bl_set _ ?_ ?_); focus (first | (simp; done) | (simp; omega) | omega)) | (with_reducible refine Below.drew ?_) | (with_reducible refine bl_drewN _ ?_)), by simpa using c0, by simpa using c1, by simpa using c2, by simpa using c3⟩
     case measure => simp [intOf]
    ·have b2 : (l == 0) = false := by simpa using p2
     by_cases p3 : s 1 < l
     ·have b3 : decide (s 1 < l) = true := by simpa using p3
      go_wp2_with (first | (go_quiet (fail)))
      all_goals
      go_roundw
      case rel => exact ⟨1+1, by omega, by go_num, by rw [nextTo, HL.out]; unfold nx; congr 1; first | (rw [if_pos (by omega)]) | (rw [if_neg (by omega)]), by (repeat first | (with_reducible assumption) | (with_reducible exact Below.refl _ _) | ((with_reducible refine bl_alloc _ ?_ ?_); focus (first | (simp; done) | (simp; omega) | omega)) | ((with_reducible refine bl_set _ ?_ ?_); focus (first | (simp; done) | (simp; omega) | omega)) | (with_reducible refine Below.drew ?_) | (with_reducible refine bl_drewN _ ?_)), by simpa using c0, by simpa using c1, by simpa using c2, by simpa using c3⟩
      case measure => simp [intOf]
     ·have b3 : decide (s 1 < l) = false := by simpa using p3
      go_wp2_with (first | (go_quiet (fail)))
      all_goals
      go_roundw
      case rel => exact ⟨1+1, by omega, by go_num, by rw [nextTo, HL.out]; unfold nx; congr 1; first | (rw [if_pos (by omega)]) | (rw [if_neg (by omega)]), by (repeat first | (with_reducible assumption) | (with_reducible exact Below.refl _ _) | ((with_reducible refine bl_alloc _ ?_ ?_); focus (first | (simp; done) | (simp; omega) | omega)) | ((with_reducible refine bl_set _ ?_ ?_); focus (first | (simp; done) | (simp; omega) | omega)) | (with_reducible refine Below.drew ?_) | (with_reducible refine bl_drewN _ ?_)), by simpa using c0, by simpa using c1, by simpa using c2, by simpa using c3⟩
      case measure => simp [intOf]
   ·have b1 : decide (0 < s 1) = false := by simpa using p1
    go_wp2_with (first | (go_quiet (fail)))
    all_goals
    go_roundw
    case rel => exact ⟨1+1, by omega, by go_num, by rw [nextTo, HL.out]; unfold nx; congr 1; first | (rw [if_pos (by omega)]) | (rw [if_neg (by omega)]), by (repeat first | (with_reducible assumption) | (with_reducible exact Below.refl _ _) | ((with_reducible refine bl_alloc _ ?_ ?_); focus (first | (simp; done) | (simp; omega) | omega)) | ((with_reducible refine bl_set _ ?_ ?_); focus (first | (simp; done) | (simp; omega) | omega)) | (with_reducible refine Below.drew ?_) | (with_reducible refine bl_drewN _ ?_)), by simpa using c0, by simpa using c1, by simpa using c2, by simpa using c3⟩
    case measure => simp [intOf]
  ·by_cases p1 : 0 < s 2
   ·have b1 : decide (0 < s 2) = true := by simpa using p1
    by_cases p2 : l = 0
    ·have b2 : (l == 0) = true := by simpa using p2
     have p2' : l ≤ 0 ∧ 0 ≤ l := by omega
     clear p2
     go_wp2_with (first | (go_quiet (fail)))
     all_goals
     go_roundw
     case rel => exact ⟨2+1, by omega, by go_num, by rw [nextTo, HL.out]; unfold nx; congr 1; first | (rw [if_pos (by omega)]) | (rw [if_neg (by omega)]), by (repeat first | (with_reducible assumption) | (with_reducible exact Below.refl _ _) | ((with_reducible refine bl_alloc _ ?_ ?_); focus (first | (simp; done) | (simp; omega) | omega)) | ((with_reducible refine bl_set _ ?_ ?_); focus (first | (simp; done) | (simp; omega) | omega)) | (with_reducible refine Below.drew ?_) | (with_reducible refine bl_drewN _ ?_)), by simpa using c0, by simpa using c1, by simpa using c2, by simpa using c3⟩
     case measure => simp [intOf]
    ·have b2 : (l == 0) = false := by simpa using p2
     by_cases p3 : s 2 < l
     ·have b3 : decide (s 2 < l) = true := by simpa using p3
      go_wp2_with (first | (go_quiet (fail)))
      all_goals
      go_roundw
      case rel => exact ⟨2+1, by omega, by go_num, by rw [nextTo, HL.out]; unfold nx; congr 1; first | (rw [if_pos (by omega)]) | (rw [if_neg (by omega)]), by (repeat first | (with_reducible assumption) | (with_reducible exact Below.refl _ _) | ((with_reducible refine bl_alloc _ ?_ ?_); focus (first | (simp; done) | (simp; omega) | omega)) | ((with_reducible refine bl_set _ ?_ ?_); focus (first | (simp; done) | (simp; omega) | omega)) | (with_reducible refine Below.drew ?_) | (with_reducible refine bl_drewN _ ?_)), by simpa using c0, by simpa using c1, by simpa using c2, by simpa using c3⟩
      case measure => simp [intOf]
     ·have b3 : decide (s 2 < l) = false := by simpa using p3
      go_wp2_with (first | (go_quiet (fail)))
      all_goals
      go_roundw
      case rel => exact ⟨2+1, by omega, by go_num, by rw [nextTo, HL.out]; unfold nx; congr 1; first | (rw [if_pos (by omega)]) | (rw [if_neg (by omega)]), by (repeat first | (with_reducible assumption) | (with_reducible exact Below.refl _ _) | ((with_reducible refine bl_alloc _ ?_ ?_); focus (first | (simp; done) | (simp; omega) | omega)) | ((with_reducible refine bl_set _ ?_ ?_); focus (first | (simp; done) | (simp; omega) | omega)) | (with_reducible refine Below.drew ?_) | (with_reducible refine bl_drewN _ ?_)), by simpa using c0, by simpa using c1, by simpa using c2, by simpa using c3⟩
      case measure => simp [intOf]
   ·have b1 : decide (0 < s 2) = false := by simpa using p1
    go_wp2_with (first | (go_quiet (fail)))
    all_goals
    go_roundw
    case rel => exact ⟨2+1, by omega, by go_num, by rw [nextTo, HL.out]; unfold nx; congr 1; first | (rw [if_pos (by omega)]) | (rw [if_neg (by omega)]), by (repeat first | (with_reducible assumption) | (with_reducible exact Below.refl _ _) | ((with_reducible refine bl_alloc _ ?_ ?_); focus (first | (simp; done) | (simp; omega) | omega)) | ((with_reducible refine bl_set _ ?_ ?_); focus (first | (simp; done) | (simp; omega) | omega)) | (with_reducible refine Below.drew ?_) | (with_reducible refine bl_drewN _ ?_)), by simpa using c0, by simpa using c1, by simpa using c2, by simpa using c3⟩
    case measure => simp [intOf]
  ·by_cases p1 : 0 < s 3
   ·have b1 : decide (0 < s 3) = true := by simpa using p1
    by_cases p2 : l = 0
    ·have b2 : (l == 0) = true := by simpa using p2
     have p2' : l ≤ 0 ∧ 0 ≤ l := by omega
     clear p2
     go_wp2_with (first | (go_quiet (fail)))
     all_goals
     go_roundw
     case rel => exact ⟨3+1, by omega, by go_num, by rw [nextTo, HL.out]; unfold nx; congr 1; first | (rw [if_pos (by omega)]) | (rw [if_neg (by omega)]), by (repeat first | (with_reducible assumption) | (with_reducible exact Below.refl _ _) | ((with_reducible refine bl_alloc _ ?_ ?_); focus (first | (simp; done) | (simp; omega) | omega)) | ((with_reducible refine bl_set _ ?_ ?_); focus (first | (simp; done) | (simp; omega) | omega)) | (with_reducible refine Below.drew ?_) | (with_reducible refine bl_drewN _ ?_)), by simpa using c0, by simpa using c1, by simpa using c2, by simpa using c3⟩
     case measure => simp [intOf]
    ·have b2 : (l == 0) = false := by simpa using p2
     by_cases p3 : s 3 < l
     ·have b3 : decide (s 3 < l) = true := by simpa using p3
      go_wp2_with (first | (go_quiet (fail)))
      all_goals
      go_roundw
      case rel => exact ⟨3+1, by omega, by go_num, by rw [nextTo, HL.out]; unfold nx; congr 1; first | (rw [if_pos (by omega)]) | (rw [if_neg (by omega)]), by (repeat first | (with_reducible assumption) | (with_reducible exact Below.refl _ _) | ((with_reducible refine bl_alloc _ ?_ ?_); focus (first | (simp; done) | (simp; omega) | omega)) | ((with_reducible refine bl_set _ ?_ ?_); focus (first | (simp; done) | (simp; omega) | omega)) | (with_reducible refine Below.drew ?_) | (with_reducible refine bl_drewN _ ?_)), by simpa using c0, by simpa using c1, by simpa using c2, by simpa using c3⟩
      case measure => simp [intOf]
     ·have b3 : decide (s 3 < l) = false := by simpa using p3
      go_wp2_with (first | (go_quiet (fail)))
      all_goals
      go_roundw
      case rel => exact ⟨3+1, by omega, by go_num, by rw [nextTo, HL.out]; unfold nx; congr 1; first | (rw [if_pos (by omega)]) | (rw [if_neg (by omega)]), by (repeat first | (with_reducible assumption) | (with_reducible exact Below.refl _ _) | ((with_reducible refine bl_alloc _ ?_ ?_); focus (first | (simp; done) | (simp; omega) | omega)) | ((with_reducible refine bl_set _ ?_ ?_); focus (first | (simp; done) | (simp; omega) | omega)) | (with_reducible refine Below.drew ?_) | (with_reducible refine bl_drewN _ ?_)), by simpa using c0, by simpa using c1, by simpa using c2, by simpa using c3⟩
      case measure => simp [intOf]
   ·have b1 : decide (0 < s 3) = false := by simpa using p1
    go_wp2_with (first | (go_quiet (fail)))
    all_goals
    go_roundw
    case rel => exact ⟨3+1, by omega, by go_num, by rw [nextTo, HL.out]; unfold nx; congr 1; first | (rw [if_pos (by omega)]) | (rw [if_neg (by omega)]), by (repeat first | (with_reducible assumption) | (with_reducible exact Below.refl _ _) | ((with_reducible refine bl_alloc _ ?_ ?_); focus (first | (simp; done) | (simp; omega) | omega)) | ((with_reducible refine bl_set _ ?_ ?_); focus (first | (simp; done) | (simp; omega) | omega)) | (with_reducible refine Below.drew ?_) | (with_reducible refine bl_drewN _ ?_)), by simpa using c0, by simpa using c1, by simpa using c2, by simpa using c3⟩
    case measure => simp [intOf]
  ·go_wp2
   go_ret
   exact ⟨ret_int HL.out.symm, by (repeat first | (with_reducible assumption) | (with_reducible exact Below.refl _ _) | ((with_reducible refine bl_alloc _ ?_ ?_); focus (first | (simp; done) | (simp; omega) | omega)) | ((with_reducible refine bl_set _ ?_ ?_); focus (first | (simp; done) | (simp; omega) | omega)) | (with_reducible refine Below.drew ?_) | (with_reducible refine bl_drewN _ ?_))⟩
theorem step_any (k s : Nat → Int) (set : Int) (hs : Sand k s) (w : World) : Calls Try.prog 66 #[A4 k, A4 s, .int .i64 set] w fun e w' => e = .returned (.tuple #[A4 (stepS k s set), .int .i64 (stepD k s set)]) ∧ Below w.heap.size w w' := by
 have ht := hs.turn set
 have hd := ht.next
 go_enter Try.func66, Try.ntmps66
 go_wp2_with (first | (go_at_call 91; refine (turn_any k s set hs _).mono ?_; rintro e w' ⟨rfl, hb⟩; have hB : Below w.heap.size w w' := Below.trans (by (repeat first | (with_reducible assumption) | (with_reducible exact Below.refl _ _) | ((with_reducible refine bl_alloc _ ?_ ?_); focus (first | (simp; done) | (simp; omega) | omega)) | ((with_reducible refine bl_set _ ?_ ?_); focus (first | (simp; done) | (simp; omega) | omega)) | (with_reducible refine Below.drew ?_) | (with_reducible refine bl_drewN _ ?_))) (hb.mono (by first | (simp; done) | (simp; omega) | omega)); obtain ⟨hc1, hf1⟩ := bcell hb; have hz1 := hb.size; (try simp at hz1); (try have hy0 : w.heap.size < w'.heap.size := by omega); (try have hy1 : w.heap.size + 1 < w'.heap.size := by omega); (try have hy2 : w.heap.size + 1 + 1 < w'.heap.size := by omega); (try have hy3 : w.heap.size + 1 + 1 + 1 < w'.heap.size := by omega); clear hb) | (go_at_call 92; refine (next_any (turnF k s set) _).mono ?_; rintro e w' ⟨rfl, hb⟩; have hB : Below w.heap.size w w' := Below.trans (by (repeat first | (with_reducible assumption) | (with_reducible exact Below.refl _ _) | ((with_reducible refine bl_alloc _ ?_ ?_); focus (first | (simp; done) | (simp; omega) | omega)) | ((with_reducible refine bl_set _ ?_ ?_); focus (first | (simp; done) | (simp; omega) | omega)) | (with_reducible refine Below.drew ?_) | (with_reducible refine bl_drewN _ ?_))) (hb.mono (by first | (simp; done) | (simp; omega) | omega)); obtain ⟨hc2, hf2⟩ := bcell hb; have hz2 := hb.size; (try simp at hz2); (try have hy0 : w.heap.size < w'.heap.size := by omega); (try have hy1 : w.heap.size + 1 < w'.heap.size := by omega); (try have hy2 : w.heap.size + 1 + 1 < w'.heap.size := by omega); (try have hy3 : w.heap.size + 1 + 1 + 1 < w'.heap.size := by omega); clear hb) | (go_at_call 93; refine (pass_any k (turnF k s set) (nextF (turnF k s set)) ht hd.1 _).mono ?_; rintro e w' ⟨rfl, hb⟩; have hB : Below w.heap.size w w' := Below.trans (by (repeat first | (with_reducible assumption) | (with_reducible exact Below.refl _ _) | ((with_reducible refine bl_alloc _ ?_ ?_); focus (first | (simp; done) | (simp; omega) | omega)) | ((with_reducible refine bl_set _ ?_ ?_); focus (first | (simp; done) | (simp; omega) | omega)) | (with_reducible refine Below.drew ?_) | (with_reducible refine bl_drewN _ ?_))) (hb.mono (by first | (simp; done) | (simp; omega) | omega)); obtain ⟨hc3, hf3⟩ := bcell hb; have hz3 := hb.size; (try simp at hz3); (try have hy0 : w.heap.size < w'.heap.size := by omega); (try have hy1 : w.heap.size + 1 < w'.heap.size := by omega); (try have hy2 : w.heap.size + 1 + 1 < w'.heap.size := by omega); (try have hy3 : w.heap.size + 1 + 1 + 1 < w'.heap.size := by omega); clear hb))
 refine bodyPost_ret (v := .tuple #[A4 (stepS k s set), .int .i64 (stepD k s set)]) (by simp [results, Try.results66, go_sem, stepS, stepD, *]) rfl ⟨rfl, by (repeat first | (with_reducible assumption) | (with_reducible exact Below.refl _ _) | ((with_reducible refine bl_alloc _ ?_ ?_); focus (first | (simp; done) | (simp; omega) | omega)) | ((with_reducible refine bl_set _ ?_ ?_); focus (first | (simp; done) | (simp; omega) | omega)) | (with_reducible refine Below.drew ?_) | (with_reducible refine bl_drewN _ ?_))⟩
theorem l2Step_any (k s : Nat → Int) (set : Int) (hs : Sand k s) (w : World) : Calls Try.prog 60 #[A4 k, A4 s, .int .i64 set] w fun e w' => e = .returned (.tuple #[A4 (stepS k s set), .int .i64 (stepD k s set)]) ∧ Below w.heap.size w w' := by
 have ht := hs.turn set
 have hd := ht.next
 go_enter Try.func60, Try.ntmps60
 go_wp2_with (first | (go_at_call 83; refine (l2Turn_any k s set hs _).mono ?_; rintro e w' ⟨rfl, hb⟩; have hB : Below w.heap.size w w' := Below.trans (by (repeat first | (with_reducible assumption) | (with_reducible exact Below.refl _ _) | ((with_reducible refine bl_alloc _ ?_ ?_); focus (first | (simp; done) | (simp; omega) | omega)) | ((with_reducible refine bl_set _ ?_ ?_); focus (first | (simp; done) | (simp; omega) | omega)) | (with_reducible refine Below.drew ?_) | (with_reducible refine bl_drewN _ ?_))) (hb.mono (by first | (simp; done) | (simp; omega) | omega)); obtain ⟨hc1, hf1⟩ := bcell hb; have hz1 := hb.size; (try simp at hz1); (try have hy0 : w.heap.size < w'.heap.size := by omega); (try have hy1 : w.heap.size + 1 < w'.heap.size := by omega); (try have hy2 : w.heap.size + 1 + 1 < w'.heap.size := by omega); (try have hy3 : w.heap.size + 1 + 1 + 1 < w'.heap.size := by omega); clear hb) | (go_at_call 84; refine (l2Next_any (turnF k s set) _).mono ?_; rintro e w' ⟨rfl, hb⟩; have hB : Below w.heap.size w w' := Below.trans (by (repeat first | (with_reducible assumption) | (with_reducible exact Below.refl _ _) | ((with_reducible refine bl_alloc _ ?_ ?_); focus (first | (simp; done) | (simp; omega) | omega)) | ((with_reducible refine bl_set _ ?_ ?_); focus (first | (simp; done) | (simp; omega) | omega)) | (with_reducible refine Below.drew ?_) | (with_reducible refine bl_drewN _ ?_))) (hb.mono (by first | (simp; done) | (simp; omega) | omega)); obtain ⟨hc2, hf2⟩ := bcell hb; have hz2 := hb.size; (try simp at hz2); (try have hy0 : w.heap.size < w'.heap.size := by omega); (try have hy1 : w.heap.size + 1 < w'.heap.size := by omega); (try have hy2 : w.heap.size + 1 + 1 < w'.heap.size := by omega); (try have hy3 : w.heap.size + 1 + 1 + 1 < w'.heap.size := by omega); clear hb) | (go_at_call 85; refine (l2Pass_any k (turnF k s set) (nextF (turnF k s set)) ht hd.1 hd.2 _).mono ?_; rintro e w' ⟨rfl, hb⟩; have hB : Below w.heap.size w w' := Below.trans (by (repeat first | (with_reducible assumption) | (with_reducible exact Below.refl _ _) | ((with_reducible refine bl_alloc _ ?_ ?_); focus (first | (simp; done) | (simp; omega) | omega)) | ((with_reducible refine bl_set _ ?_ ?_); focus (first | (simp; done) | (simp; omega) | omega)) | (with_reducible refine Below.drew ?_) | (with_reducible refine bl_drewN _ ?_))) (hb.mono (by first | (simp; done) | (simp; omega) | omega)); obtain ⟨hc3, hf3⟩ := bcell hb; have hz3 := hb.size; (try simp at hz3); (try have hy0 : w.heap.size < w'.heap.size := by omega); (try have hy1 : w.heap.size + 1 < w'.heap.size := by omega); (try have hy2 : w.heap.size + 1 + 1 < w'.heap.size := by omega); (try have hy3 : w.heap.size + 1 + 1 + 1 < w'.heap.size := by omega); clear hb))
 refine bodyPost_ret (v := .tuple #[A4 (stepS k s set), .int .i64 (stepD k s set)]) (by simp [results, Try.results60, go_sem, stepS, stepD, *]) rfl ⟨rfl, by (repeat first | (with_reducible assumption) | (with_reducible exact Below.refl _ _) | ((with_reducible refine bl_alloc _ ?_ ?_); focus (first | (simp; done) | (simp; omega) | omega)) | ((with_reducible refine bl_set _ ?_ ?_); focus (first | (simp; done) | (simp; omega) | omega)) | (with_reducible refine Below.drew ?_) | (with_reducible refine bl_drewN _ ?_))⟩
end Go.Proofs.Ytlhodfjdmafapaa
end
section
namespace Go.Proofs.Ytlhodfjdmafapaa
open Go.RowKit
set_option linter.unusedVariables false
theorem areSand_any (k s : Nat → Int) (w : World) : Calls Try.prog 63 #[A4 k, A4 s] w fun e w' => e = .returned (.bool (isKitB k && isSandB k s)) ∧ Below w.heap.size w w' := by
 cases h1 : isKitB k <;> cases h2 : isSandB k s
 all_goals
  go_enter Try.func63, Try.ntmps63
  go_wp2_with (first | (go_at_call 88; refine (isKit_any k _).mono ?_; rintro e w' ⟨rfl, hb⟩; have hB : Below w.heap.size w w' := Below.trans (by (repeat first | (with_reducible assumption) | (with_reducible exact Below.refl _ _) | ((with_reducible refine bl_alloc _ ?_ ?_); focus (first | (simp; done) | (simp; omega) | omega)) | ((with_reducible refine bl_set _ ?_ ?_); focus (first | (simp; done) | (simp; omega) | omega)) | (with_reducible refine Below.drew ?_) | (with_reducible refine bl_drewN _ ?_))) (hb.mono (by first | (simp; done) | (simp; omega) | omega)); obtain ⟨hc, hf⟩ := bcell hb; have hz := hb.size; (try simp at hz); (try have hy0 : w.heap.size < w'.heap.size := by omega); (try have hy1 : w.heap.size + 1 < w'.heap.size := by omega); (try have hy2 : w.heap.size + 1 + 1 < w'.heap.size := by omega); (try have hy3 : w.heap.size + 1 + 1 + 1 < w'.heap.size := by omega); clear hb) | (go_at_call 89; refine (isSand_any k s _).mono ?_; rintro e w' ⟨rfl, hb⟩; have hB : Below w.heap.size w w' := Below.trans (by (repeat first | (with_reducible assumption) | (with_reducible exact Below.refl _ _) | ((with_reducible refine bl_alloc _ ?_ ?_); focus (first | (simp; done) | (simp; omega) | omega)) | ((with_reducible refine bl_set _ ?_ ?_); focus (first | (simp; done) | (simp; omega) | omega)) | (with_reducible refine Below.drew ?_) | (with_reducible refine bl_drewN _ ?_))) (hb.mono (by first | (simp; done) | (simp; omega) | omega)); obtain ⟨hc2, hf2⟩ := bcell hb; have hz2 := hb.size; (try simp at hz2); (try have hy0 : w.heap.size < w'.heap.size := by omega); (try have hy1 : w.heap.size + 1 < w'.heap.size := by omega); (try have hy2 : w.heap.size + 1 + 1 < w'.heap.size := by omega); (try have hy3 : w.heap.size + 1 + 1 + 1 < w'.heap.size := by omega); clear hb))
  all_goals (go_ret; exact ⟨by simp [*], by (repeat first | (with_reducible assumption) | (with_reducible exact Below.refl _ _) | ((with_reducible refine bl_alloc _ ?_ ?_); focus (first | (simp; done) | (simp; omega) | omega)) | ((with_reducible refine bl_set _ ?_ ?_); focus (first | (simp; done) | (simp; omega) | omega)) | (with_reducible refine Below.drew ?_) | (with_reducible refine bl_drewN _ ?_))⟩)
end Go.Proofs.Ytlhodfjdmafapaa
end
section
namespace Go.Proofs.Ytlhodfjdmafapaa
open Go.RowKit
theorem set4_0 {W : World} {b : Nat} (u : Value) {x0 x1 x2 x3 : Value} (h : W.cell? ⟨b, 0, none⟩ = some u) : ((((W.setCell ⟨b, 0, none⟩ x0).setCell ⟨b, 1, none⟩ x1).setCell ⟨b, 2, none⟩ x2).setCell ⟨b, 3, none⟩ x3).cell? ⟨b, 0, none⟩ = some x0 := by
 rw [World.cell?_setCell_other _ _ _ _ (by simp), World.cell?_setCell_other _ _ _ _ (by simp), World.cell?_setCell_other _ _ _ _ (by simp)]
 exact World.cell?_setCell_same W _ x0 h
theorem set4_1 {W : World} {b : Nat} (u : Value) {x0 x1 x2 x3 : Value} (h : W.cell? ⟨b, 1, none⟩ = some u) : ((((W.setCell ⟨b, 0, none⟩ x0).setCell ⟨b, 1, none⟩ x1).setCell ⟨b, 2, none⟩ x2).setCell ⟨b, 3, none⟩ x3).cell? ⟨b, 1, none⟩ = some x1 := by
 rw [World.cell?_setCell_other _ _ _ _ (by simp), World.cell?_setCell_other _ _ _ _ (by simp)]
 exact World.cell?_setCell_same _ _ x1 ((World.cell?_setCell_other _ _ _ _ (by simp)).trans h)
theorem set4_2 {W : World} {b : Nat} (u : Value) {x0 x1 x2 x3 : Value} (h : W.cell? ⟨b, 2, none⟩ = some u) : ((((W.setCell ⟨b, 0, none⟩ x0).setCell ⟨b, 1, none⟩ x1).setCell ⟨b, 2, none⟩ x2).setCell ⟨b, 3, none⟩ x3).cell? ⟨b, 2, none⟩ = some x2 := by
 rw [World.cell?_setCell_other _ _ _ _ (by simp)]
 exact World.cell?_setCell_same _ _ x2 ((World.cell?_setCell_other _ _ _ _ (by simp)).trans ((World.cell?_setCell_other _ _ _ _ (by simp)).trans h))
theorem set4_3 {W : World} {b : Nat} (u : Value) {x0 x1 x2 x3 : Value} (h : W.cell? ⟨b, 3, none⟩ = some u) : ((((W.setCell ⟨b, 0, none⟩ x0).setCell ⟨b, 1, none⟩ x1).setCell ⟨b, 2, none⟩ x2).setCell ⟨b, 3, none⟩ x3).cell? ⟨b, 3, none⟩ = some x3 :=
 World.cell?_setCell_same _ _ x3 ((World.cell?_setCell_other _ _ _ _ (by simp)).trans ((World.cell?_setCell_other _ _ _ _ (by simp)).trans ((World.cell?_setCell_other _ _ _ _ (by simp)).trans h)))
end Go.Proofs.Ytlhodfjdmafapaa
end
section
namespace Go.Proofs.Ytlhodfjdmafapaa
open Go.RowKit
set_option linter.unusedVariables false
theorem calm_any (w : World) : Calls Try.prog 47 #[] w fun e w' => e = .returned (A4 (fun _ => 0)) ∧ Below w.heap.size w w' := by
 go_enter Try.func47, Try.ntmps47
 go_wp2_with fail
 refine bodyPost_ret (v := A4 (fun _ => 0)) (by simp [results, Try.results47, go_sem]) rfl ⟨rfl, by (repeat first | (with_reducible assumption) | (with_reducible exact Below.refl _ _) | ((with_reducible refine bl_alloc _ ?_ ?_); focus (first | (simp; done) | (simp; omega) | omega)) | ((with_reducible refine bl_set _ ?_ ?_); focus (first | (simp; done) | (simp; omega) | omega)) | (with_reducible refine Below.drew ?_) | (with_reducible refine bl_drewN _ ?_))⟩
end Go.Proofs.Ytlhodfjdmafapaa
end
section
namespace Go.Proofs.Ytlhodfjdmafapaa
open Go.RowKit
set_option linter.unusedVariables false
set_option linter.unusedSimpArgs false
def v4 (a b c d : Int) : Nat → Int
 | 0 => a
 | 1 => b
 | 2 => c
 | _ => d
def v3 (a b c : Int) : Nat → Int
 | 0 => a
 | 1 => b
 | _ => c
def v6 (a b c d e f : Int) : Nat → Int
 | 0 => a
 | 1 => b
 | 2 => c
 | 3 => d
 | 4 => e
 | _ => f
theorem sand_of' {k s : Nat → Int} (g : (isKitB k && isSandB k s) = true) : Sand k s := by
 rw [Bool.and_eq_true] at g; exact sand_of g.1 g.2
end Go.Proofs.Ytlhodfjdmafapaa
end
section
namespace Go.Proofs.Ytlhodfjdmafapaa
open Go.RowKit
set_option linter.unusedVariables false
set_option linter.unusedSimpArgs false
def xToKit.f (a0_0 a0_1 a0_2 a0_3 : Int) : Option (Int × Int × Int × Int) := some (((v4 a0_0 a0_1 a0_2 a0_3)) 0, ((v4 a0_0 a0_1 a0_2 a0_3)) 1, ((v4 a0_0 a0_1 a0_2 a0_3)) 2, ((v4 a0_0 a0_1 a0_2 a0_3)) 3)
theorem xToKit.calls (a0_0 a0_1 a0_2 a0_3 : Int) (r1 : Int) (r2 : Int) (r3 : Int) (r4 : Int) (w : World) (h : xToKit.f a0_0 a0_1 a0_2 a0_3 = some (r1, r2, r3, r4)) : Calls Try.prog 15 #[.agg #[.int .i64 a0_0, .int .i64 a0_1, .int .i64 a0_2, .int .i64 a0_3]] w fun e w' => e = .returned (.agg #[.int .i64 r1, .int .i64 r2, .int .i64 r3, .int .i64 r4]) ∧ Below w.heap.size w w' := by
 unfold xToKit.f at h
 simp only [Option.some.injEq, Prod.mk.injEq] at h
 obtain ⟨rfl, rfl, rfl, rfl⟩ := h
 exact toKit_any (v4 a0_0 a0_1 a0_2 a0_3) w
def xAreSand.f (a0_0 a0_1 a0_2 a0_3 a1_0 a1_1 a1_2 a1_3 : Int) : Option (Bool) := some (isKitB (v4 a0_0 a0_1 a0_2 a0_3) && isSandB (v4 a0_0 a0_1 a0_2 a0_3) (v4 a1_0 a1_1 a1_2 a1_3))
theorem xAreSand.calls (a0_0 a0_1 a0_2 a0_3 a1_0 a1_1 a1_2 a1_3 : Int) (r : Bool) (w : World) (h : xAreSand.f a0_0 a0_1 a0_2 a0_3 a1_0 a1_1 a1_2 a1_3 = some (r)) : Calls Try.prog 63 #[.agg #[.int .i64 a0_0, .int .i64 a0_1, .int .i64 a0_2, .int .i64 a0_3], .agg #[.int .i64 a1_0, .int .i64 a1_1, .int .i64 a1_2, .int .i64 a1_3]] w fun e w' => e = .returned (.bool r) ∧ Below w.heap.size w w' := by
 unfold xAreSand.f at h
 obtain rfl := Option.some.inj h
 exact areSand_any (v4 a0_0 a0_1 a0_2 a0_3) (v4 a1_0 a1_1 a1_2 a1_3) w
def xProduct.f (a0_0 a0_1 a0_2 a0_3 : Int) : Option (Int) := some (prodOf (v4 a0_0 a0_1 a0_2 a0_3))
theorem xProduct.calls (a0_0 a0_1 a0_2 a0_3 : Int) (r : Int) (w : World) (h : xProduct.f a0_0 a0_1 a0_2 a0_3 = some (r)) : Calls Try.prog 80 #[.agg #[.int .i64 a0_0, .int .i64 a0_1, .int .i64 a0_2, .int .i64 a0_3]] w fun e w' => e = .returned (.int .i64 r) ∧ Below w.heap.size w w' := by
 unfold xProduct.f at h
 obtain rfl := Option.some.inj h
 exact product_any (v4 a0_0 a0_1 a0_2 a0_3) w
def xL4Many.f (a0_0 a0_1 a0_2 a0_3 : Int) : Option (Int) := some (prodOf (v4 a0_0 a0_1 a0_2 a0_3))
theorem xL4Many.calls (a0_0 a0_1 a0_2 a0_3 : Int) (r : Int) (w : World) (h : xL4Many.f a0_0 a0_1 a0_2 a0_3 = some (r)) : Calls Try.prog 77 #[.agg #[.int .i64 a0_0, .int .i64 a0_1, .int .i64 a0_2, .int .i64 a0_3]] w fun e w' => e = .returned (.int .i64 r) ∧ Below w.heap.size w w' := by
 unfold xL4Many.f at h
 obtain rfl := Option.some.inj h
 exact l4Many_any (v4 a0_0 a0_1 a0_2 a0_3) w
def xL4Narrow.f (a0_0 a0_1 a0_2 a0_3 : Int) : Option (Bool) := some (isKitB (v4 a0_0 a0_1 a0_2 a0_3) && decide (prodOf (v4 a0_0 a0_1 a0_2 a0_3) ≤ 3000))
theorem xL4Narrow.calls (a0_0 a0_1 a0_2 a0_3 : Int) (r : Bool) (w : World) (h : xL4Narrow.f a0_0 a0_1 a0_2 a0_3 = some (r)) : Calls Try.prog 44 #[.agg #[.int .i64 a0_0, .int .i64 a0_1, .int .i64 a0_2, .int .i64 a0_3]] w fun e w' => e = .returned (.bool r) ∧ Below w.heap.size w w' := by
 unfold xL4Narrow.f at h
 obtain rfl := Option.some.inj h
 exact l4Narrow_any (v4 a0_0 a0_1 a0_2 a0_3) w
def xIsSet.f (a0_0 a0_1 a0_2 a0_3 a1 : Int) : Option (Bool) := some (isSetB (v4 a0_0 a0_1 a0_2 a0_3) a1)
theorem xIsSet.calls (a0_0 a0_1 a0_2 a0_3 a1 : Int) (r : Bool) (w : World) (h : xIsSet.f a0_0 a0_1 a0_2 a0_3 a1 = some (r)) : Calls Try.prog 90 #[.agg #[.int .i64 a0_0, .int .i64 a0_1, .int .i64 a0_2, .int .i64 a0_3], .int .i64 a1] w fun e w' => e = .returned (.bool r) ∧ Below w.heap.size w w' := by
 unfold xIsSet.f at h
 obtain rfl := Option.some.inj h
 exact isSet_any (v4 a0_0 a0_1 a0_2 a0_3) a1 w
def xL2Set.f (a0_0 a0_1 a0_2 a0_3 a1 : Int) : Option (Bool) := some (isSetB (v4 a0_0 a0_1 a0_2 a0_3) a1)
theorem xL2Set.calls (a0_0 a0_1 a0_2 a0_3 a1 : Int) (r : Bool) (w : World) (h : xL2Set.f a0_0 a0_1 a0_2 a0_3 a1 = some (r)) : Calls Try.prog 61 #[.agg #[.int .i64 a0_0, .int .i64 a0_1, .int .i64 a0_2, .int .i64 a0_3], .int .i64 a1] w fun e w' => e = .returned (.bool r) ∧ Below w.heap.size w w' := by
 unfold xL2Set.f at h
 obtain rfl := Option.some.inj h
 exact l2Set_any (v4 a0_0 a0_1 a0_2 a0_3) a1 w
def xL2Step.f (a0_0 a0_1 a0_2 a0_3 a1_0 a1_1 a1_2 a1_3 a2 : Int) : Option (Int × Int × Int × Int × Int) := if (isKitB (v4 a0_0 a0_1 a0_2 a0_3) && isSandB (v4 a0_0 a0_1 a0_2 a0_3) (v4 a1_0 a1_1 a1_2 a1_3)) = true then some ((stepS (v4 a0_0 a0_1 a0_2 a0_3) (v4 a1_0 a1_1 a1_2 a1_3) a2) 0, (stepS (v4 a0_0 a0_1 a0_2 a0_3) (v4 a1_0 a1_1 a1_2 a1_3) a2) 1, (stepS (v4 a0_0 a0_1 a0_2 a0_3) (v4 a1_0 a1_1 a1_2 a1_3) a2) 2, (stepS (v4 a0_0 a0_1 a0_2 a0_3) (v4 a1_0 a1_1 a1_2 a1_3) a2) 3, stepD (v4 a0_0 a0_1 a0_2 a0_3) (v4 a1_0 a1_1 a1_2 a1_3) a2) else none
theorem xL2Step.calls (a0_0 a0_1 a0_2 a0_3 a1_0 a1_1 a1_2 a1_3 a2 : Int) (r1 : Int) (r2 : Int) (r3 : Int) (r4 : Int) (r5 : Int) (w : World) (h : xL2Step.f a0_0 a0_1 a0_2 a0_3 a1_0 a1_1 a1_2 a1_3 a2 = some (r1, r2, r3, r4, r5)) : Calls Try.prog 60 #[.agg #[.int .i64 a0_0, .int .i64 a0_1, .int .i64 a0_2, .int .i64 a0_3], .agg #[.int .i64 a1_0, .int .i64 a1_1, .int .i64 a1_2, .int .i64 a1_3], .int .i64 a2] w fun e w' => e = .returned (.tuple #[.agg #[.int .i64 r1, .int .i64 r2, .int .i64 r3, .int .i64 r4], .int .i64 r5]) ∧ Below w.heap.size w w' := by
 unfold xL2Step.f at h
 by_cases g : (isKitB (v4 a0_0 a0_1 a0_2 a0_3) && isSandB (v4 a0_0 a0_1 a0_2 a0_3) (v4 a1_0 a1_1 a1_2 a1_3)) = true
 ·rw [if_pos g] at h
  simp only [Option.some.injEq, Prod.mk.injEq] at h
  obtain ⟨rfl, rfl, rfl, rfl, rfl⟩ := h
  exact l2Step_any (v4 a0_0 a0_1 a0_2 a0_3) (v4 a1_0 a1_1 a1_2 a1_3) a2 (sand_of' g) w
 ·rw [if_neg g] at h; cases h
def xCalm.f : Option (Int × Int × Int × Int) := some (((fun _ => 0)) 0, ((fun _ => 0)) 1, ((fun _ => 0)) 2, ((fun _ => 0)) 3)
theorem xCalm.calls (r1 : Int) (r2 : Int) (r3 : Int) (r4 : Int) (w : World) (h : xCalm.f  = some (r1, r2, r3, r4)) : Calls Try.prog 47 #[] w fun e w' => e = .returned (.agg #[.int .i64 r1, .int .i64 r2, .int .i64 r3, .int .i64 r4]) ∧ Below w.heap.size w w' := by
 unfold xCalm.f at h
 simp only [Option.some.injEq, Prod.mk.injEq] at h
 obtain ⟨rfl, rfl, rfl, rfl⟩ := h
 exact calm_any w
end Go.Proofs.Ytlhodfjdmafapaa
end
section
namespace Go.Proofs.Ytlhodfjdmafapaa
open Go.RowKit
set_option linter.unusedVariables false
set_option linter.unusedSimpArgs false
def idOf (k s : Nat → Int) : Int := wrap64 (wrap64 (wrap64 (wrap64 (wrap64 (wrap64 (wrap64 (s 0) * wrap64 (k 1 + 1)) + s 1) * wrap64 (k 2 + 1)) + s 2) * wrap64 (k 3 + 1)) + s 3)
set_option maxHeartbeats 1600000 in
theorem l4Id_any (k s : Nat → Int) (w : World) : Calls Try.prog 50 #[A4 k, A4 s] w fun e w' => e = .returned (.int .i64 (idOf k s)) ∧ Below w.heap.size w w' := by
 go_enter Try.func50, Try.ntmps50
 go_wp2_with fail
 refine wp_loop_rounds 5 ?_
 go_wp2_with (first | (go_quiet (fail)) | (rw [rounds_succ]))
 all_goals (go_ret; exact ⟨ret_int (by first | rfl | (simp [idOf]; done) | trace_state), by (repeat first | (with_reducible assumption) | (with_reducible exact Below.refl _ _) | ((with_reducible refine bl_alloc _ ?_ ?_); focus (first | (simp; done) | (simp; omega) | omega)) | ((with_reducible refine bl_set _ ?_ ?_); focus (first | (simp; done) | (simp; omega) | omega)) | (with_reducible refine Below.drew ?_) | (with_reducible refine bl_drewN _ ?_))⟩)
def xL4Id.f (a0_0 a0_1 a0_2 a0_3 a1_0 a1_1 a1_2 a1_3 : Int) : Option (Int) := some (idOf (v4 a0_0 a0_1 a0_2 a0_3) (v4 a1_0 a1_1 a1_2 a1_3))
theorem xL4Id.calls (a0_0 a0_1 a0_2 a0_3 a1_0 a1_1 a1_2 a1_3 : Int) (r : Int) (w : World) (h : xL4Id.f a0_0 a0_1 a0_2 a0_3 a1_0 a1_1 a1_2 a1_3 = some (r)) : Calls Try.prog 50 #[.agg #[.int .i64 a0_0, .int .i64 a0_1, .int .i64 a0_2, .int .i64 a0_3], .agg #[.int .i64 a1_0, .int .i64 a1_1, .int .i64 a1_2, .int .i64 a1_3]] w fun e w' => e = .returned (.int .i64 r) ∧ Below w.heap.size w w' := by
 unfold xL4Id.f at h
 obtain rfl := Option.some.inj h
 exact l4Id_any (v4 a0_0 a0_1 a0_2 a0_3) (v4 a1_0 a1_1 a1_2 a1_3) w
def sandAt (k : Nat → Int) (id : Int) : Nat → Int := v4 (id / (k 3 + 1) / (k 2 + 1) / (k 1 + 1) % (k 0 + 1)) (id / (k 3 + 1) / (k 2 + 1) % (k 1 + 1)) (id / (k 3 + 1) % (k 2 + 1)) (id % (k 3 + 1))
set_option maxHeartbeats 1600000 in
theorem l4Sand_any (k : Nat → Int) (id : Int) (hk : ∀ i, i < 4 → 0 ≤ k i ∧ k i ≤ 30) (h0 : 0 ≤ id) (h1 : id ≤ 4000000) (w : World) : Calls Try.prog 79 #[A4 k, .int .i64 id] w fun e w' => e = .returned (A4 (sandAt k id)) ∧ Below w.heap.size w w' := by
 have a0 := (hk 0 (by omega)).1
 have b0 := (hk 0 (by omega)).2
 have a1 := (hk 1 (by omega)).1
 have b1 := (hk 1 (by omega)).2
 have a2 := (hk 2 (by omega)).1
 have b2 := (hk 2 (by omega)).2
 have a3 := (hk 3 (by omega)).1
 have b3 := (hk 3 (by omega)).2
 have d3 : 0 ≤ id / (k 3 + 1) := Int.ediv_nonneg h0 (by omega)
 have e3 : id / (k 3 + 1) ≤ 4000000 := Int.le_trans (Int.ediv_le_self _ h0) h1
 have d2 : 0 ≤ id / (k 3 + 1) / (k 2 + 1) := Int.ediv_nonneg d3 (by omega)
 have e2 : id / (k 3 + 1) / (k 2 + 1) ≤ 4000000 := Int.le_trans (Int.ediv_le_self _ d3) e3
 have d1 : 0 ≤ id / (k 3 + 1) / (k 2 + 1) / (k 1 + 1) := Int.ediv_nonneg d2 (by omega)
 have e1 : id / (k 3 + 1) / (k 2 + 1) / (k 1 + 1) ≤ 4000000 := Int.le_trans (Int.ediv_le_self _ d2) e2
 clear hk
 go_enter Try.func79, Try.ntmps79
 go_wp2_with fail
 refine wp_loop_rounds 5 ?_
 go_wp2_with (first | (go_quiet (fail)) | (rw [rounds_succ]))
 refine bodyPost_ret (v := A4 (sandAt k id)) (by simp [results, Try.results79, go_sem]; first | done | rfl | simp [sandAt, v4]) rfl ⟨rfl, by (repeat first | (with_reducible assumption) | (with_reducible exact Below.refl _ _) | ((with_reducible refine bl_alloc _ ?_ ?_); focus (first | (simp; done) | (simp; omega) | omega)) | ((with_reducible refine bl_set _ ?_ ?_); focus (first | (simp; done) | (simp; omega) | omega)) | (with_reducible refine Below.drew ?_) | (with_reducible refine bl_drewN _ ?_))⟩
def kitB30 (k : Nat → Int) : Bool := inB 0 30 (k 0) && inB 0 30 (k 1) && inB 0 30 (k 2) && inB 0 30 (k 3)
def xL4Sand.f (a0_0 a0_1 a0_2 a0_3 id : Int) : Option (Int × Int × Int × Int) :=
 if (kitB30 (v4 a0_0 a0_1 a0_2 a0_3) && inB 0 4000000 id) = true then some ((sandAt (v4 a0_0 a0_1 a0_2 a0_3) id) 0, (sandAt (v4 a0_0 a0_1 a0_2 a0_3) id) 1, (sandAt (v4 a0_0 a0_1 a0_2 a0_3) id) 2, (sandAt (v4 a0_0 a0_1 a0_2 a0_3) id) 3) else none
theorem xL4Sand.calls (a0_0 a0_1 a0_2 a0_3 id : Int) (r0 r1 r2 r3 : Int) (w : World) (h : xL4Sand.f a0_0 a0_1 a0_2 a0_3 id = some (r0, r1, r2, r3)) : Calls Try.prog 79 #[.agg #[.int .i64 a0_0, .int .i64 a0_1, .int .i64 a0_2, .int .i64 a0_3], .int .i64 id] w fun e w' => e = .returned (.agg #[.int .i64 r0, .int .i64 r1, .int .i64 r2, .int .i64 r3]) ∧ Below w.heap.size w w' := by
 unfold xL4Sand.f at h
 split at h
 ·rename_i q
  rw [Bool.and_eq_true, inB_iff] at q
  obtain ⟨q1, q2, q3⟩ := q
  simp only [kitB30, Bool.and_eq_true, inB_iff] at q1
  simp only [Option.some.injEq, Prod.mk.injEq] at h
  obtain ⟨rfl, rfl, rfl, rfl⟩ := h
  exact l4Sand_any (v4 a0_0 a0_1 a0_2 a0_3) id (four q1.1.1.1 q1.1.1.2 q1.1.2 q1.2) q2 q3 w
 ·cases h
end Go.Proofs.Ytlhodfjdmafapaa
end
section
namespace Go.Proofs.Ytlhodfjdmafapaa
open Go.RowKit Go.Maps Go.WideShapes
set_option linter.unusedVariables false
set_option linter.unusedSimpArgs false
/-- a kind of map: how its keys and elements are told -/
structure MapKd (P : Program) (k : TypeId) (α β : Type) where
 eK : α → Value
 lK : α → Lit
 good : α → Prop
 eV : β → Value
 law : Keyed P k
 key : ∀ x, good x → keyOf P k (eK x) = some (lK x)
 inj : ∀ x y, good x → good y → lK x = lK y → x = y
 vinj : ∀ a b, eV a = eV b → a = b
/-- an element read as the value that it is -/
def rdV (v : Value) : Option (DataW Value × List MemPlace) := some (.held v, [])
open Classical in
noncomputable def getA {α β : Type} (L : List (α × β)) (x : α) : Option β := (L.find? (fun p => decide (p.1 = x))).map (·.2)
open Classical in
noncomputable def delA {α β : Type} (L : List (α × β)) (x : α) : List (α × β) := L.filter (fun p => decide (p.1 ≠ x))
noncomputable def putA {α β : Type} (L : List (α × β)) (x : α) (y : β) : List (α × β) := (x, y) :: delA L x
section pure
variable {α β : Type}
theorem getA_some {L : List (α × β)} {x : α} {y : β} (h : getA L x = some y) : (x, y) ∈ L := by
 unfold getA at h
 rw [Option.map_eq_some_iff] at h
 obtain ⟨⟨a, b⟩, h1, rfl⟩ := h
 have := List.find?_some h1
 simp only [decide_eq_true_eq] at this
 subst this
 exact List.mem_of_find?_eq_some h1
theorem getA_none {L : List (α × β)} {x : α} (h : getA L x = none) : ∀ p ∈ L, p.1 ≠ x := by
 unfold getA at h
 rw [Option.map_eq_none_iff, List.find?_eq_none] at h
 intro p hp e
 exact h p hp (by simpa using e)
theorem getA_mem {L : List (α × β)} (hn : L.Pairwise fun p q => p.1 ≠ q.1) {x : α} {y : β} (h : (x, y) ∈ L) : getA L x = some y := by
 cases e : getA L x with
 | none => exact absurd rfl (getA_none e _ h)
 | some z =>
  have hz := getA_some e
  have : ∀ {l : List (α × β)}, (l.Pairwise fun p q => p.1 ≠ q.1) → ∀ {y z : β}, (x, y) ∈ l → (x, z) ∈ l → y = z := by
   intro l
   induction l with
   | nil => intro _ y z h; cases h
   | cons a r ih =>
    intro hp y z h1 h2
    obtain ⟨p1, p2⟩ := List.pairwise_cons.1 hp
    rcases List.mem_cons.1 h1 with e1 | h1
    ·rcases List.mem_cons.1 h2 with e2 | h2
     ·rw [← e1] at e2; exact (Prod.mk.inj e2).2.symm
     ·exact absurd (by rw [← e1]) (p1 _ h2)
    ·rcases List.mem_cons.1 h2 with e2 | h2
     ·exact absurd (by rw [← e2]) (p1 _ h1)
     ·exact ih p2 h1 h2
  rw [this hn h hz]
theorem getA_perm {L L' : List (α × β)} (hp : L.Perm L') (hn : L.Pairwise fun p q => p.1 ≠ q.1) (x : α) : getA L x = getA L' x := by
 have hn' : L'.Pairwise fun p q => p.1 ≠ q.1 := (hp.pairwise_iff (fun {_ _} h => Ne.symm h)).1 hn
 cases e : getA L x with
 | some y => exact (getA_mem hn' (hp.mem_iff.1 (getA_some e))).symm
 | none =>
  cases e' : getA L' x with
  | none => rfl
  | some y => exact absurd rfl (getA_none e _ (hp.mem_iff.2 (getA_some e')))
theorem delA_keys {L : List (α × β)} (x : α) : ∀ p ∈ delA L x, p.1 ≠ x := fun p hp => by
 have := (List.mem_filter.1 hp).2
 simpa using this
theorem putA_nodup {L : List (α × β)} (hn : L.Pairwise fun p q => p.1 ≠ q.1) (x : α) (y : β) : (putA L x y).Pairwise fun p q => p.1 ≠ q.1 :=
 List.pairwise_cons.2 ⟨fun p hp e => delA_keys x p hp e.symm, hn.filter _⟩
open Classical in
theorem getA_put (L : List (α × β)) (x z : α) (y : β) : getA (putA L x y) z = if z = x then some y else getA L z := by
 unfold getA putA delA
 by_cases e : z = x
 ·subst e; simp
 ·have e' : ¬ x = z := fun h => e h.symm
  rw [List.find?_cons_of_neg (by simpa using e'), if_neg e, List.find?_filter]
  congr 2
  funext p
  by_cases h : p.1 = z
  ·simp [h, e]
  ·simp [h]
open Classical in
theorem getA_del (L : List (α × β)) (x z : α) : getA (delA L x) z = if z = x then none else getA L z := by
 unfold getA delA
 by_cases e : z = x
 ·subst e
  rw [if_pos rfl, Option.map_eq_none_iff, List.find?_eq_none]
  intro p hp
  have := (List.mem_filter.1 hp).2
  simpa using this
 ·rw [if_neg e, List.find?_filter]
  congr 2
  funext p
  by_cases h : p.1 = z
  ·simp [h, e]
  ·simp [h]
end pure
variable {P : Program} {k : TypeId} {α β : Type}
/-- a datum is the list of pairs, in whatever order -/
def MapKd.Rep (M : MapKd P k α β) (D : DataW Value) (L : List (α × β)) : Prop :=
 (L.Pairwise fun p q => p.1 ≠ q.1) ∧ (∀ p ∈ L, M.good p.1) ∧ ∃ es, D = .map es ∧ es.Perm (L.map fun p => (M.lK p.1, DataW.held (M.eV p.2)))
/-- block b is a map that holds the pairs L -/
def MapKd.own (M : MapKd P k α β) (w : World) (b n : Nat) (L : List (α × β)) : Prop := ∃ D, w.ownsMap P k rdV b n D ∧ M.Rep D L
theorem MapKd.Rep.perm {M : MapKd P k α β} {D : DataW Value} {L L' : List (α × β)} (h : M.Rep D L) (hp : L.Perm L') : M.Rep D L' := by
 obtain ⟨h1, h2, es, rfl, h3⟩ := h
 exact ⟨(hp.pairwise_iff (fun {_ _} h => Ne.symm h)).1 h1, fun p h => h2 p (hp.mem_iff.2 h), es, rfl, h3.trans (hp.map _)⟩
section rep
variable {M : MapKd P k α β} {D : DataW Value} {L : List (α × β)}
theorem MapKd.Rep.apart (h : M.Rep D L) : ∃ es, D = .map es ∧ es.Pairwise (fun p q => p.1 ≠ q.1) ∧ es.Perm (L.map fun p => (M.lK p.1, DataW.held (M.eV p.2))) := by
 obtain ⟨h1, h2, es, rfl, h3⟩ := h
 refine ⟨es, rfl, (h3.pairwise_iff (fun {_ _} h => Ne.symm h)).2 ?_, h3⟩
 rw [List.pairwise_map]
 refine List.Pairwise.imp_of_mem ?_ h1
 intro p q hp hq hne e
 exact hne (M.inj _ _ (h2 p hp) (h2 q hq) e)
theorem MapKd.Rep.at_some (h : M.Rep D L) {x : α} {y : β} (hx : getA L x = some y) (z : DataW Value) : D.atKey (M.lK x) z = .held (M.eV y) := by
 have hm := getA_some hx
 obtain ⟨es, rfl, ha, hp⟩ := h.apart
 exact WideAt.atKey_mem z (M.law.key (M.key x (h.2.1 _ hm))) ha (hp.mem_iff.2 (List.mem_map.2 ⟨_, hm, rfl⟩))
theorem MapKd.Rep.has_some (h : M.Rep D L) {x : α} {y : β} (hx : getA L x = some y) : Maps.has D (M.lK x) = true :=
 Maps.has_true_of_atKey (fun z => h.at_some hx z)
theorem MapKd.Rep.has_none (h : M.Rep D L) {x : α} (g : M.good x) (hx : getA L x = none) : Maps.has D (M.lK x) = false := by
 obtain ⟨_, h2, es, rfl, hp⟩ := h
 cases e : Maps.has (.map es) (M.lK x)
 ·rfl
 ·obtain ⟨p, hpm, hs⟩ := List.any_eq_true.1 (show es.any (fun p => p.1.sameKey (M.lK x)) = true from e)
  obtain ⟨q, hq, rfl⟩ := List.mem_map.1 (hp.mem_iff.1 hpm)
  exact absurd (M.inj _ _ (h2 q hq) g (WideAt.sameKey_eq hs)) (getA_none hx q hq)
theorem MapKd.Rep.has_eq (h : M.Rep D L) {x : α} (g : M.good x) : Maps.has D (M.lK x) = (getA L x).isSome := by
 cases e : getA L x with
 | none => exact h.has_none g e
 | some y => exact h.has_some e
theorem MapKd.Rep.size (h : M.Rep D L) : Maps.size D = L.length := by
 obtain ⟨_, _, es, rfl, hp⟩ := h
 show es.length = _
 rw [hp.length_eq, List.length_map]
open Classical in
theorem filter_keys (M : MapKd P k α β) {L : List (α × β)} (h2 : ∀ p ∈ L, M.good p.1) {x : α} (g : M.good x) :
  (L.map fun p => (M.lK p.1, (DataW.held (M.eV p.2) : DataW Value))).filter (fun p => !p.1.sameKey (M.lK x)) = (delA L x).map fun p => (M.lK p.1, DataW.held (M.eV p.2)) := by
 rw [List.filter_map]
 congr 1
 refine List.filter_congr (fun p hp => ?_)
 show (!(M.lK p.1).sameKey (M.lK x)) = decide (p.1 ≠ x)
 by_cases e : p.1 = x
 ·rw [e, WideAt.sameKey_self (M.law.key (M.key x g))]; simp
 ·rw [sameKey_ne (fun q => e (M.inj _ _ (h2 p hp) g q))]; simp [e]
theorem MapKd.Rep.put (h : M.Rep D L) {x : α} (g : M.good x) (y : β) : M.Rep (D.put (M.lK x) (.held (M.eV y))) (putA L x y) := by
 obtain ⟨h1, h2, es, rfl, hp⟩ := h
 refine ⟨putA_nodup h1 x y, fun p hp => ?_, _, rfl, ?_⟩
 ·rcases List.mem_cons.1 hp with rfl | hp
  ·exact g
  ·exact h2 p ((List.mem_filter.1 hp).1)
 ·refine (insert_perm _ _).trans ?_
  rw [show putA L x y = (x, y) :: delA L x from rfl, List.map_cons]
  refine List.Perm.cons _ ?_
  rw [← filter_keys M h2 g]
  exact hp.filter _
theorem MapKd.Rep.del (h : M.Rep D L) {x : α} (g : M.good x) : M.Rep (D.del (M.lK x)) (delA L x) := by
 obtain ⟨h1, h2, es, rfl, hp⟩ := h
 refine ⟨h1.filter _, fun p hp => h2 p ((List.mem_filter.1 hp).1), _, rfl, ?_⟩
 rw [← filter_keys M h2 g]
 exact hp.filter _
end rep
section own
variable {M : MapKd P k α β} {w : World} {b n : Nat} {L : List (α × β)}
theorem MapKd.own_made (M : MapKd P k α β) (w : World) : M.own (w.alloc (.map #[] 0)) w.heap.size 0 [] :=
 ⟨.map [], World.ownsMap_made w P k rdV, List.Pairwise.nil, fun _ h => (List.not_mem_nil h).elim, [], rfl, List.Perm.refl _⟩
theorem MapKd.own_kept {w' : World} {row : Option Nat} (h : M.own w b n L) (hg : w.grownBy w' row) (hne : some b ≠ row) : M.own w' b n L := let ⟨D, h1, h2⟩ := h; ⟨D, h1.kept hg hne, h2⟩
theorem MapKd.own_alloc (h : M.own w b n L) (o : Obj) : M.own (w.alloc o) b n L := let ⟨D, h1, h2⟩ := h; ⟨D, h1.alloc o, h2⟩
theorem MapKd.own_same {w' : World} (h : M.own w b n L) (e : w'.heap[b]? = w.heap[b]?) : M.own w' b n L := by
 obtain ⟨D, ⟨es, clock, hb, r⟩, h2⟩ := h
 exact ⟨D, ⟨es, clock, e.trans hb, r⟩, h2⟩
theorem MapKd.own_lt (h : M.own w b n L) : b < w.heap.size := let ⟨_, h1, _⟩ := h; h1.lt
theorem MapKd.own_below {w' : World} (h : M.own w b n L) (hb : Below w.heap.size w w') : M.own w' b n L := MapKd.own_same h (hb.block b (MapKd.own_lt h))
theorem MapKd.own_mono (h : M.own w b n L) {n' : Nat} (hn : n ≤ n') : M.own w b n' L := let ⟨D, h1, h2⟩ := h; ⟨D, h1.mono hn, h2⟩
theorem MapKd.own_nodup (h : M.own w b n L) : L.Pairwise fun p q => p.1 ≠ q.1 := let ⟨_, _, h2⟩ := h; h2.1
theorem MapKd.own_is (h : M.own w b n L) : ∃ es c, w.heap[b]? = some (.map es c) := by
 obtain ⟨D, ⟨es, clock, hb, _⟩, _⟩ := h
 exact ⟨es, clock, hb⟩
end own
/-- a range over a map, under way: the pairs 'done' have come -/
def MapKd.ranges (M : MapKd P k α β) (w : World) (b r n : Nat) (L done : List (α × β)) : Prop :=
 ∃ D left cnt todo, w.ranges P k rdV b r n D left cnt ∧ M.Rep D L ∧ (done ++ todo).Perm L ∧ (∀ p ∈ L, left (M.lK p.1) = true → p ∈ todo) ∧ (∀ p ∈ todo, left (M.lK p.1) = true)
section rng
variable {M : MapKd P k α β} {w : World} {b r n : Nat} {L done : List (α × β)}
theorem MapKd.ranges_kept {w' : World} {row : Option Nat} (h : M.ranges w b r n L done) (hg : w.grownBy w' row) (hb : some b ≠ row) (hr : some r ≠ row) : M.ranges w' b r n L done :=
 let ⟨D, left, cnt, todo, h1, h2⟩ := h; ⟨D, left, cnt, todo, h1.kept hg hb hr, h2⟩
theorem MapKd.ranges_same {w' : World} (h : M.ranges w b r n L done) (e : w'.heap[b]? = w.heap[b]?) (e2 : w'.heap[r]? = w.heap[r]?) : M.ranges w' b r n L done := by
 obtain ⟨D, left, cnt, todo, ⟨es, clock, since, seen, c0, hb, F, hs, hD, hr, rest⟩, h2⟩ := h
 exact ⟨D, left, cnt, todo, ⟨es, clock, since, seen, c0, e.trans hb, F, hs, hD, e2.trans hr, rest⟩, h2⟩
theorem MapKd.ranges_own (h : M.ranges w b r n L done) : M.own w b n L := let ⟨D, left, cnt, todo, h1, h2, _⟩ := h; ⟨D, h1.owns, h2⟩
theorem MapKd.ranges_lt (h : M.ranges w b r n L done) : r < w.heap.size := let ⟨_, _, _, _, h1, _⟩ := h; h1.lt
theorem MapKd.ranges_below {w' : World} (h : M.ranges w b r n L done) (hb : Below w.heap.size w w') : M.ranges w' b r n L done :=
 MapKd.ranges_same h (hb.block b (MapKd.own_lt (MapKd.ranges_own h))) (hb.block r (MapKd.ranges_lt h))
theorem MapKd.ranges_left {w' : World} (h : M.ranges w b r n L done) (e : w'.heap[b]? = w.heap[b]?) (e2 : w'.heap[r]? = w.heap[r]?) : w'.rangeLeft b r = w.rangeLeft b r := by
 unfold World.rangeLeft; rw [e, e2]
end rng
section ops
variable (w : World) {ops : Array Oper} {rest : List Oper} {o : Oper} {a : Act} {Q : Exit → Act → World → Prop}
/-- 'm[k] = v' -/
theorem wpList_update_om (M : MapKd P k α β) (hg : o.guard = none) (m x v : Operand) (t : TypeId) (hop : o.op = Op.mapUpdate t m x v)
  (e : TypeId) (ht : P.underlying t = some (.map k e)) (b n : Nat) (L : List (α × β))
  (hm : a.eval m = .map (some b)) (hown : M.own w b n L) (hn : n < maxLen) (key : α) (val : β) (hx : a.eval x = M.eK key) (hv : a.eval v = M.eV val) (hgd : M.good key)
  (hK : ∀ w', M.own w' b (n + 1) (putA L key val) → w.grownBy w' (some b) → w.heap.size = w'.heap.size → wpList P ops Q rest (a.put o.dst undef) w') :
  wpList P ops Q (o :: rest) a w := by
 obtain ⟨D, h1, h2⟩ := hown
 refine wpList_plain hg fun K' hK' => ?_
 obtain ⟨w', hrun, r1, r2⟩ := h1.store M.law ht hn (M.key key hgd) (show rdV (M.eV val) = some (.held (M.eV val), []) from rfl)
 unfold Oper.wp
 simp [execOp, hop, hm, hx, hv, hrun, Result.andThen]
 have hs : w.heap.size = w'.heap.size := by
  obtain ⟨_, _, es', c', _, rfl⟩ := r2
  simp [ChangeMaps.setBlock]
 exact hK' _ _ (hK w' ⟨_, r1, h2.put hgd val⟩ r2.grown hs)
/-- a pair of a map that is written out -/
theorem wpList_insert_om (M : MapKd P k α β) (hg : o.guard = none) (m x v : Operand) (t : TypeId) (hop : o.op = Op.insert t m x v)
  (e : TypeId) (ht : P.underlying t = some (.map k e)) (b n : Nat) (L : List (α × β))
  (hm : a.eval m = .map (some b)) (hown : M.own w b n L) (hn : n < maxLen) (key : α) (val : β) (hx : a.eval x = M.eK key) (hv : a.eval v = M.eV val) (hgd : M.good key)
  (hK : ∀ w', M.own w' b (n + 1) (putA L key val) → w.grownBy w' (some b) → w.heap.size = w'.heap.size → wpList P ops Q rest (a.put o.dst undef) w') :
  wpList P ops Q (o :: rest) a w := by
 obtain ⟨D, h1, h2⟩ := hown
 refine wpList_plain hg fun K' hK' => ?_
 obtain ⟨w', hrun, r1, r2⟩ := h1.store M.law ht hn (M.key key hgd) (show rdV (M.eV val) = some (.held (M.eV val), []) from rfl)
 unfold Oper.wp
 simp [execOp, hop, hm, hx, hv, hrun, Result.andThen]
 have hs : w.heap.size = w'.heap.size := by
  obtain ⟨_, _, es', c', _, rfl⟩ := r2
  simp [ChangeMaps.setBlock]
 exact hK' _ _ (hK w' ⟨_, r1, h2.put hgd val⟩ r2.grown hs)
/-- 'v, ok := m[k]' -/
theorem wpList_lookup_ok_om (M : MapKd P k α β) (hg : o.guard = none) (m x : Operand) (t : TypeId) (hop : o.op = Op.lookup t m x true)
  (e : TypeId) (ht : P.underlying t = some (.map k e)) (z : β) (hz : (zeroValue e).run P w = .ok (M.eV z) w) (b n : Nat) (L : List (α × β))
  (hm : a.eval m = .map (some b)) (hown : M.own w b n L) (key : α) (hx : a.eval x = M.eK key) (hgd : M.good key)
  (hK : wpList P ops Q rest (a.put o.dst (.tuple #[M.eV ((getA L key).getD z), .bool (getA L key).isSome])) w) :
  wpList P ops Q (o :: rest) a w := by
 obtain ⟨D, h1, h2⟩ := hown
 refine wpList_plain hg fun K' hK' => ?_
 obtain ⟨v, ps, hrun, hv⟩ := h1.look_ok M.law ht hz (show rdV (M.eV z) = some (.held (M.eV z), []) from rfl) (M.key key hgd)
 have hv' : v = M.eV ((getA L key).getD z) := by
  simp only [rdV, Option.some.injEq, Prod.mk.injEq] at hv
  cases e1 : getA L key with
  | some y => rw [h2.at_some e1] at hv; simpa using hv.1
  | none => rw [Maps.atKey_of_not_has (h2.has_none hgd e1)] at hv; simpa using hv.1
 rw [h2.has_eq hgd, hv'] at hrun
 unfold Oper.wp
 simp only [execOp, hop, hm, hx]
 simp [hrun, Result.andThen]
 exact hK' _ _ (by simpa using hK)
/-- .. where the key is not there -/
theorem wpList_lookup_ok_none (M : MapKd P k α β) (hg : o.guard = none) (m x : Operand) (t : TypeId) (hop : o.op = Op.lookup t m x true)
  (e : TypeId) (ht : P.underlying t = some (.map k e)) (z : β) (hz : (zeroValue e).run P w = .ok (M.eV z) w) (b n : Nat) (L : List (α × β))
  (hm : a.eval m = .map (some b)) (hown : M.own w b n L) (key : α) (hx : a.eval x = M.eK key) (hgd : M.good key) (hn : getA L key = none) (v : Value) (hv : M.eV z = v)
  (hK : wpList P ops Q rest (a.put o.dst (.tuple #[v, .bool false])) w) :
  wpList P ops Q (o :: rest) a w :=
 wpList_lookup_ok_om w M hg m x t hop e ht z hz b n L hm hown key hx hgd (by rw [hn]; subst hv; exact hK)
/-- .. where it is -/
theorem wpList_lookup_ok_some (M : MapKd P k α β) (hg : o.guard = none) (m x : Operand) (t : TypeId) (hop : o.op = Op.lookup t m x true)
  (e : TypeId) (ht : P.underlying t = some (.map k e)) (z : β) (hz : (zeroValue e).run P w = .ok (M.eV z) w) (b n : Nat) (L : List (α × β))
  (hm : a.eval m = .map (some b)) (hown : M.own w b n L) (key : α) (hx : a.eval x = M.eK key) (hgd : M.good key) (y : β) (hn : getA L key = some y) (v : Value) (hv : M.eV y = v)
  (hK : wpList P ops Q rest (a.put o.dst (.tuple #[v, .bool true])) w) :
  wpList P ops Q (o :: rest) a w :=
 wpList_lookup_ok_om w M hg m x t hop e ht z hz b n L hm hown key hx hgd (by rw [hn]; subst hv; exact hK)
/-- 'm[k]' -/
theorem wpList_lookup_om (M : MapKd P k α β) (hg : o.guard = none) (m x : Operand) (t : TypeId) (hop : o.op = Op.lookup t m x false)
  (e : TypeId) (ht : P.underlying t = some (.map k e)) (z : β) (hz : (zeroValue e).run P w = .ok (M.eV z) w) (b n : Nat) (L : List (α × β))
  (hm : a.eval m = .map (some b)) (hown : M.own w b n L) (key : α) (hx : a.eval x = M.eK key) (hgd : M.good key)
  (hK : wpList P ops Q rest (a.put o.dst (M.eV ((getA L key).getD z))) w) :
  wpList P ops Q (o :: rest) a w := by
 obtain ⟨D, h1, h2⟩ := hown
 refine wpList_plain hg fun K' hK' => ?_
 obtain ⟨v, ps, hrun, hv⟩ := h1.lookup M.law ht hz (show rdV (M.eV z) = some (.held (M.eV z), []) from rfl) (M.key key hgd)
 have hv' : v = M.eV ((getA L key).getD z) := by
  simp only [rdV, Option.some.injEq, Prod.mk.injEq] at hv
  cases e1 : getA L key with
  | some y => rw [h2.at_some e1] at hv; simpa using hv.1
  | none => rw [Maps.atKey_of_not_has (h2.has_none hgd e1)] at hv; simpa using hv.1
 rw [hv'] at hrun
 unfold Oper.wp
 simp only [execOp, hop, hm, hx]
 simp [hrun, Result.andThen]
 exact hK' _ _ (by simpa using hK)
/-- 'delete(m, k)' -/
theorem wpList_delete_om (M : MapKd P k α β) (hg : o.guard = none) (m x : Operand) (t : TypeId) (hop : o.op = Op.call { callee := Callee.builtin Builtin.delete, args := #[m, x], argTypes := #[t, k] })
  (e : TypeId) (ht : P.underlying t = some (.map k e)) (b n : Nat) (L : List (α × β))
  (hm : a.eval m = .map (some b)) (hown : M.own w b n L) (key : α) (hx : a.eval x = M.eK key) (hgd : M.good key)
  (hK : ∀ w', M.own w' b n (delA L key) → w.grownBy w' (some b) → w.heap.size = w'.heap.size → wpList P ops Q rest (a.put o.dst (.tuple #[])) w') :
  wpList P ops Q (o :: rest) a w := by
 obtain ⟨D, h1, h2⟩ := hown
 refine wpList_delete_own w hg m x t k hop e M.law ht rdV b n D hm h1 (M.eK key) (M.lK key) hx (M.key key hgd) (fun w' r1 r2 => ?_)
 have hs : w.heap.size = w'.heap.size := by
  obtain ⟨_, _, es', c', _, rfl⟩ := r2
  simp [ChangeMaps.setBlock]
 exact hK w' ⟨_, r1, h2.del hgd⟩ r2.grown hs
/-- 'range m' -/
theorem wpList_range_om (M : MapKd P k α β) (hg : o.guard = none) (m : Operand) (t : TypeId) (hop : o.op = Op.range t m) (e : TypeId) (ht : P.underlying t = some (.map k e)) (b n : Nat) (L : List (α × β))
  (hm : a.eval m = .map (some b)) (hown : M.own w b n L)
  (hK : ∀ w', M.ranges w' b w.heap.size n L [] → w.grownBy w' none → w'.heap.size = w.heap.size + 1 → wpList P ops Q rest (a.put o.dst (.pointer (some ⟨w.heap.size, 0, none⟩))) w') :
  wpList P ops Q (o :: rest) a w := by
 obtain ⟨D, h1, h2⟩ := hown
 refine wpList_range_own w hg m t hop k e M.law ht rdV b n D hm h1 (fun w' hr hgr hs => ?_)
 exact hK w' ⟨D, _, _, L, hr, h2, by simp, fun p hp _ => hp, fun p hp => h2.has_some (getA_mem h2.1 hp)⟩ hgr hs
/-- the step of a range -/
theorem wpList_next_om (M : MapKd P k α β) (hg : o.guard = none) (it : Operand) (hop : o.op = Op.next it false) (b r n : Nat) (L done : List (α × β))
  (hit : a.eval it = .pointer (some ⟨r, 0, none⟩)) (h : M.ranges w b r n L done)
  (hDone : done.Perm L → wpList P ops Q rest (a.put o.dst (.tuple #[.bool false])) w)
  (hMore : ∀ (x : α) (y : β) (w' : World), (x, y) ∈ L → (x, y) ∉ done → M.ranges w' b r n L (done ++ [(x, y)]) → w'.rangeLeft b r < w.rangeLeft b r → w.grownBy w' (some r) → w'.heap.size = w.heap.size →
   (Instr.entry (.pointer (some ⟨r, 0, none⟩))).run P w' = .ok (.tuple #[M.eK x, M.eV y]) w' → wpList P ops Q rest (a.put o.dst (.tuple #[.bool true, M.eK x, M.eV y])) w') :
  wpList P ops Q (o :: rest) a w := by
 obtain ⟨D, left, cnt, todo, h1, h2, h3, h4, h5⟩ := h
 refine wpList_plain hg fun K' hK' => ?_
 unfold Oper.wp
 rcases h1.next M.law o.type with ⟨h0, hl, hrun⟩ | ⟨key, v, kl, y, w', cnt', hkey, hlk, hv, hat, hrun, hrg, hlt, hgr, hsz, hen⟩
 ·simp [execOp, hop, hit, hrun, Result.andThen]
  refine hK' _ _ (hDone ?_)
  cases todo with
  | nil => simpa using h3
  | cons q t => have := h5 q (by simp); rw [hl] at this; cases this
 ·have hhas := Maps.has_true_of_atKey hat
  have ⟨hn, hgood, es, hes, hpm⟩ := h2
  subst hes
  obtain ⟨p, hp, hs⟩ := List.any_eq_true.1 (show es.any (fun p => p.1.sameKey kl) = true from hhas)
  obtain ⟨⟨x, c⟩, hq, rfl⟩ := List.mem_map.1 (hpm.mem_iff.1 hp)
  obtain rfl := WideAt.sameKey_eq hs
  obtain rfl : key = M.eK x := M.law.inj hkey (M.key x (hgood _ hq))
  have hc : y.1 = .held (M.eV c) := (hat .nil).symm.trans (h2.at_some (getA_mem hn hq) .nil)
  obtain rfl : v = M.eV c := by
   simp only [rdV, Option.some.injEq] at hv
   rw [← hv] at hc
   simpa using hc
  have htodo : (x, c) ∈ todo := h4 _ hq hlk
  have hnd : (done ++ todo).Pairwise fun p q => p.1 ≠ q.1 := (h3.pairwise_iff (fun {_ _} h => Ne.symm h)).2 hn
  obtain ⟨t1, t2, rfl⟩ := List.append_of_mem htodo
  have hperm : (done ++ (t1 ++ (x, c) :: t2)).Perm ((done ++ [(x, c)]) ++ (t1 ++ t2)) := by
   rw [List.append_assoc]
   refine List.Perm.append_left _ ?_
   exact List.perm_middle
  have hnd2 := (hperm.pairwise_iff (fun {_ _} h => Ne.symm h)).1 hnd
  rw [List.pairwise_append] at hnd2
  obtain ⟨n1, n2, n3⟩ := hnd2
  rw [List.pairwise_append] at n1
  simp [execOp, hop, hit, hrun, Result.andThen]
  refine hK' _ _ (hMore x c w' hq (fun hd => ?_) ⟨_, _, cnt', t1 ++ t2, hrg, h2, hperm.symm.trans h3, fun p hp hl => ?_, fun p hp => ?_⟩ ?_ hgr hsz hen)
  ·exact n1.2.2 _ hd _ (by simp) rfl
  ·simp only [Bool.and_eq_true, Bool.not_eq_true'] at hl
   have := h4 p hp hl.1
   rcases List.mem_append.1 this with h | h
   ·exact List.mem_append_left _ h
   ·rcases List.mem_cons.1 h with rfl | h
    ·rw [WideAt.sameKey_self (M.law.key (M.key x (hgood _ hq)))] at hl; simp at hl
    ·exact List.mem_append_right _ h
  ·have hpl : p ∈ L := h3.mem_iff.1 (List.mem_append_right _ (by
    rcases List.mem_append.1 hp with h | h
    ·exact List.mem_append_left _ h
    ·exact List.mem_append_right _ (List.mem_cons_of_mem _ h)))
   have hl := h5 p (by
    rcases List.mem_append.1 hp with h | h
    ·exact List.mem_append_left _ h
    ·exact List.mem_append_right _ (List.mem_cons_of_mem _ h))
   simp only [Bool.and_eq_true, Bool.not_eq_true']
   refine ⟨hl, sameKey_ne (fun e => ?_)⟩
   exact n3 (x, c) (by simp) p hp (M.inj _ _ (hgood _ hq) (hgood _ hpl) e.symm)
  ·rw [hrg.left_eq, h1.left_eq]; exact hlt
end ops
end Go.Proofs.Ytlhodfjdmafapaa
end
section
namespace Go.Proofs.Ytlhodfjdmafapaa
open Go.WideMaps (ArrKey)
open Go.RowKit Go.Maps
set_option linter.unusedVariables false
set_option linter.unusedSimpArgs false
abbrev Sd : Type := Int × Int × Int × Int
def fn4 (x : Sd) : Nat → Int := v4 x.1 x.2.1 x.2.2.1 x.2.2.2
def tup4 (g : Nat → Int) : Sd := (g 0, g 1, g 2, g 3)
def good4 (s : Sd) : Prop := (0 ≤ s.1 ∧ s.1 ≤ 30) ∧ (0 ≤ s.2.1 ∧ s.2.1 ≤ 30) ∧ (0 ≤ s.2.2.1 ∧ s.2.2.1 ≤ 30) ∧ (0 ≤ s.2.2.2 ∧ s.2.2.2 ≤ 30)
theorem keyLits4 {P : Program} {k e : TypeId} {q : IntKind} (A : ArrKey P k e 4) (he : P.underlying e = some (.int q)) (m : Nat) {a b c d : Int} (wa : (Lit.int q a).wf = true) (wb : (Lit.int q b).wf = true) (wc : (Lit.int q c).wf = true) (wd : (Lit.int q d).wf = true) :
  P.keyLits (m + 2) k [.int q a, .int q b, .int q c, .int q d] = some [.int q a, .int q b, .int q c, .int q d] := by
 unfold Program.keyLits
 simp only [A.hu]
 rw [if_pos (by rw [A.size]; rfl), show List.range 4 = [0, 1, 2, 3] from rfl, List.mapM_cons, List.mapM_cons, List.mapM_cons, List.mapM_cons, List.mapM_nil]
 simp [A.one, Program.keyLits, he, wa, wb, wc, wd]
theorem arr4 : ArrKey Try.prog 22 3 4 := ⟨Try.underlying22, by kernel_rfl, by kernel_rfl, by kernel_rfl⟩
theorem law4 : Keyed Try.prog 22 := Keyed.of_law arr4.law
theorem size4 : ∃ m, (Try.prog).types.size + 1 = m + 3 := ⟨(Try.prog).types.size - 2, by kernel_rfl⟩
def lits4 (s : Sd) : List Lit := [.int .i64 s.1, .int .i64 s.2.1, .int .i64 s.2.2.1, .int .i64 s.2.2.2]
theorem wf30 {a : Int} (h : 0 ≤ a ∧ a ≤ 30) : (Lit.int .i64 a).wf = true := WalkArith.wf_i64 (by omega)
theorem keyOf4 {s : Sd} (h : good4 s) : keyOf Try.prog 22 (A4 (fn4 s)) = some (.string (keyBytes (lits4 s))) := by
 obtain ⟨m, hm⟩ := size4
 unfold keyOf
 simp only [Try.underlying22]
 rw [if_pos (by rw [show Program.keyType Try.prog 22 = true by kernel_rfl]; simp [Value.formed, Try.underlying22, arr4.size]), hm]
 show Option.map _ (Program.keyLits _ (m + 1 + 2) _ [.int .i64 s.1, .int .i64 s.2.1, .int .i64 s.2.2.1, .int .i64 s.2.2.2]) = _
 rw [keyLits4 arr4 Try.underlying3 (m + 1) (wf30 h.1) (wf30 h.2.1) (wf30 h.2.2.1) (wf30 h.2.2.2)]
 rfl
/-- maps keyed by sands -/
def mk4 {β : Type} (eV : β → Value) (vinj : ∀ a b, eV a = eV b → a = b) : MapKd Try.prog 22 Sd β where
 eK := fun s => A4 (fn4 s)
 lK := fun s => .string (keyBytes (lits4 s))
 good := good4
 eV := eV
 law := law4
 key := fun _ h => keyOf4 h
 inj := fun x y hx hy e => by
  have := law4.inj (keyOf4 hx) (e ▸ keyOf4 hy)
  obtain ⟨x0, x1, x2, x3⟩ := x
  obtain ⟨y0, y1, y2, y3⟩ := y
  simpa [A4, fn4, v4] using this
 vinj := vinj
end Go.Proofs.Ytlhodfjdmafapaa
end
section
namespace Go.Proofs.Ytlhodfjdmafapaa
open Go.RowKit Go.Maps Go.WideShapes Go.Proofs.YtlhodfjdmafapaaW.PrintWords Go.Proofs.YtlhodfjdmafapaaW.PrintLast
set_option linter.unusedVariables false
set_option linter.unusedSimpArgs false
/-- a row of a flat kind depends on its own block alone -/
def Flat {β : Type} (d : Kd β) : Prop := ∀ (w : World) (base : Nat) (ok1 ok2 : Nat → Prop) (x : β) (cs : List Value), d.M w base ok1 x cs → d.M w base ok2 x cs
theorem R_only {β : Type} {d : Kd β} (hd : Flat d) {e base : Nat} {ok : Nat → Prop} {w w1 : World} {v : Value} {xs : List β} (h : d.R e w base ok v xs) (hm : ∀ k, v.ownBlock = some k → w1.heap[k]? = w.heap[k]?) : d.R e w1 base ok v xs :=
 Kd.R_mono (Kd.R_move (Kd.R_flat (ok' := fun k => ok k ∧ v.ownBlock = some k) (fun {ok1 ok2 x cs} => hd w base ok1 ok2 x cs) h (fun k hk ho => ⟨ho, hk⟩)) (fun k hk => hm k hk.2)) (fun k hk => hk.1)
section
variable {P : Program} {k : TypeId} {α β : Type}
/-- a map of rows, each row its own block, one for which ok says yes -/
structure QL (M : MapKd P k α Value) (d : Kd β) (e : TypeId) (w : World) (b base : Nat) (ok : Nat → Prop) (n : Nat) (Q : α → List β) (L : List (α × Value)) : Prop where
 own : M.own w b n L
 row : ∀ p ∈ L, d.R e w base ok p.2 (Q p.1)
 none : ∀ x, getA L x = none → Q x = []
 apart : L.Pairwise fun p q => ∀ j, p.2.ownBlock = some j → q.2.ownBlock ≠ some j
section
variable {M : MapKd P k α Value} {d : Kd β} {e : TypeId} {w w' : World} {b base n : Nat} {ok : Nat → Prop} {Q : α → List β} {L : List (α × Value)}
theorem QL.below (h : QL M d e w b base ok n Q L) (hb : Below w.heap.size w w') : QL M d e w' b base ok n Q L :=
 ⟨MapKd.own_below h.own hb, fun p hp => Kd.R_below (h.row p hp) hb, h.none, h.apart⟩
/-- the row at x -/
theorem QL.at {x : α} {v : Value} (h : QL M d e w b base ok n Q L) (g : (getA L x).getD (.slice .none 0 0) = v) : d.R e w base ok v (Q x) := by
 subst g
 cases g : getA L x with
 | none => rw [h.none x g]; exact Kd.R_nil _ _ _ _ _
 | some v => exact h.row _ (getA_some g)
theorem QL.map {g : Nat} (h : QL M d e w b base ok n Q L) (hg : w.grownBy w' (some g)) (hne : g ≠ b) (hm : ∃ es c, w.heap[g]? = some (.map es c)) : QL M d e w' b base ok n Q L := by
 obtain ⟨es, c, hm⟩ := hm
 refine ⟨MapKd.own_kept h.own hg (fun e => hne (Option.some.inj e).symm), fun p hp => ?_, h.none, h.apart⟩
 have hr := h.row p hp
 refine Kd.R_mono (Kd.R_grown (Kd.R_mono (Kd.R_bound hr) (ok' := fun k => ok k ∧ k ≠ g) (fun j hj => ⟨hj.1, fun e => ?_⟩)) hg (fun j hj e => hj.2 (Option.some.inj e))) (fun _ hj => hj.1)
 obtain ⟨_, _, _, q, _, cells, hc⟩ := hj
 rw [e, hm] at hc
 cases hc
theorem QL.fence (h : QL M d e w b base ok n Q L) (a : Nat) (ha : w.heap.size ≤ a) : QL M d e w b base (fun j => ok j ∧ j ≠ a) n Q L :=
 ⟨h.own, fun p hp => Kd.R_elderB (h.row p hp) a ha, h.none, h.apart⟩
theorem QL.free {ok' : Nat → Prop} (h : QL M d e w b base ok n Q L) (hok : ∀ j, ok j → ok' j) : QL M d e w b base ok' n Q L :=
 ⟨h.own, fun p hp => Kd.R_mono (h.row p hp) hok, h.none, h.apart⟩
theorem QL.lt (h : QL M d e w b base ok n Q L) : b < w.heap.size := MapKd.own_lt h.own
theorem QL.is (h : QL M d e w b base ok n Q L) : ∃ es c, w.heap[b]? = some (.map es c) := MapKd.own_is h.own
theorem QL.mono {n' : Nat} (h : QL M d e w b base ok n Q L) (hn : n ≤ n') : QL M d e w b base ok n' Q L := ⟨MapKd.own_mono h.own hn, h.row, h.none, h.apart⟩
theorem QL.congr {Q' : α → List β} (h : QL M d e w b base ok n Q L) (hQ : ∀ x, Q x = Q' x) : QL M d e w b base ok n Q' L := (show Q = Q' from funext hQ) ▸ h
/-- a row that was there before -/
theorem QL.row_ne {x : α} {v : Value} (h : QL M d e w b base ok n Q L) (g : (getA L x).getD (.slice .none 0 0) = v) : v.ownBlock ≠ some b := fun e1 => by
 obtain ⟨cells, hc⟩ := Kd.R_typed (h.at g) b e1
 obtain ⟨es, c, hm⟩ := h.is
 rw [hc] at hm; cases hm
end
section ops
variable (w : World) {ops : Array Oper} {rest : List Oper} {o : Oper} {a : Act} {K : Exit → Act → World → Prop}
/-- 'm[k]', the row at k -/
theorem wpList_lookup_q (M : MapKd P k α Value) (d : Kd β) (hV : ∀ v, M.eV v = v) (hg : o.guard = none) (m x : Operand) (t : TypeId) (hop : o.op = Op.lookup t m x false)
  (E e : TypeId) (ht : P.underlying t = some (.map k E)) (hz : (zeroValue E).run P w = .ok (.slice none 0 0) w) (b base n : Nat) (ok : Nat → Prop) (Q : α → List β) (L : List (α × Value))
  (hm : a.eval m = .map (some b)) (h : QL M d e w b base ok n Q L) (key : α) (hx : a.eval x = M.eK key) (hgd : M.good key) (v : Value) (hv : (getA L key).getD (.slice none 0 0) = v)
  (hK : wpList P ops K rest (a.put o.dst v) w) :
  wpList P ops K (o :: rest) a w := by
 refine wpList_lookup_om w M hg m x t hop E ht (.slice none 0 0) (by rw [hV]; exact hz) b n L hm h.own key hx hgd ?_
 rw [hV, hv]
 exact hK
/-- 'm[k] = append(m[k], ..)', the update: W before the append, w behind it -/
theorem wpList_update_q (M : MapKd P k α Value) (d : Kd β) (hd : Flat d) (hV : ∀ v, M.eV v = v) (hg : o.guard = none) (m x v : Operand) (t : TypeId) (hop : o.op = Op.mapUpdate t m x v)
  (E e : TypeId) (ht : P.underlying t = some (.map k E)) (b base n : Nat) (ok : Nat → Prop) (Q Q' : α → List β) (hm : a.eval m = .map (some b))
  {W : World} {key : α} {u u1 : Value} {L : List (α × Value)} (h : QL M d e W b base ok n Q L) (hu : (getA L key).getD (.slice none 0 0) = u) (hgw : W.grownBy w u.ownBlock) (hat : u1.ownBlock = u.ownBlock ∨ ∃ j, u1.ownBlock = some j ∧ W.heap.size ≤ j) (hR : d.R e w base ok u1 (Q' key)) (hsame : ∀ y, y ≠ key → Q' y = Q y)
  (hn : n < maxLen) (hx : a.eval x = M.eK key) (hv : a.eval v = u1) (hgd : M.good key)
  (hK : ∀ w', QL M d e w' b base ok (n + 1) Q' (putA L key u1) → w.grownBy w' (some b) → w.heap.size = w'.heap.size → wpList P ops K rest (a.put o.dst undef) w') :
  wpList P ops K (o :: rest) a w := by
 have hub : u.ownBlock ≠ some b := h.row_ne hu
 have h1 : M.own w b n L := MapKd.own_kept h.own hgw (Ne.symm hub)
 have hlt : ∀ p ∈ L, ∀ j, p.2.ownBlock = some j → j < W.heap.size := fun p hp => Kd.R_lt (h.row p hp)
 have hne : ∀ p ∈ L, p.1 ≠ key → ∀ j, p.2.ownBlock = some j → u.ownBlock ≠ some j := fun p hp hpk j hj => by
  cases g : getA L key with
  | none => rw [g] at hu; subst hu; simp [Value.ownBlock]
  | some z =>
   rw [g] at hu
   have hu' : z = u := hu
   subst hu'
   have hz := getA_some g
   have : ∀ {l : List (α × Value)}, (l.Pairwise fun p q => ∀ j, p.2.ownBlock = some j → q.2.ownBlock ≠ some j) → p ∈ l → (key, z) ∈ l → z.ownBlock ≠ some j := by
    intro l
    induction l with
    | nil => intro _ h; cases h
    | cons a r ih =>
     intro hpw hp hz
     obtain ⟨p1, p2⟩ := List.pairwise_cons.1 hpw
     rcases List.mem_cons.1 hp with rfl | hp2
     ·rcases List.mem_cons.1 hz with rfl | hz2
      ·exact absurd rfl hpk
      ·exact p1 _ hz2 j hj
     ·rcases List.mem_cons.1 hz with rfl | hz2
      ·intro e1
       exact p1 _ hp2 j e1 hj
      ·exact ih p2 hp2 hz2
   exact this h.apart hp hz
 have hrow : ∀ p ∈ L, p.1 ≠ key → d.R e w base ok p.2 (Q p.1) := fun p hp hpk =>
  R_only hd (h.row p hp) (fun j hj => hgw.block j (hlt p hp j hj) (fun e1 => hne p hp hpk j hj e1.symm))
 have hu1 : ∀ p ∈ L, p.1 ≠ key → ∀ j, p.2.ownBlock = some j → u1.ownBlock ≠ some j := fun p hp hpk j hj e1 => by
  rcases hat with hat | ⟨i, hi, hle⟩
  ·rw [hat] at e1; exact hne p hp hpk j hj e1
  ·rw [hi] at e1
   have := hlt p hp j hj
   have := Option.some.inj e1
   omega
 refine wpList_update_om w M hg m x v t hop E ht b n L hm h1 hn key u1 hx (by rw [hV]; exact hv) hgd (fun w' r1 r2 r3 => hK w' ⟨r1, ?_, ?_, ?_⟩ r2 r3)
 ·have hw' : ∀ (z : Value) (xs : List β), d.R e w base ok z xs → d.R e w' base ok z xs := fun z xs hz => R_only hd hz (fun j hj => r2.block j (Kd.R_lt hz j hj) (fun e1 => by
   obtain ⟨cells, hc⟩ := Kd.R_typed hz j hj
   obtain ⟨es, c, hm⟩ := MapKd.own_is h1
   rw [Option.some.inj e1, hm] at hc; cases hc))
  intro p hp
  rcases List.mem_cons.1 hp with rfl | hp
  ·exact hw' _ _ hR
  ·have hk := delA_keys key p hp
   rw [hsame _ hk]
   exact hw' _ _ (hrow p (List.mem_filter.1 hp).1 hk)
 ·intro y hy
  rw [getA_put] at hy
  split at hy
  ·cases hy
  ·rename_i c
   rw [hsame y c]
   exact h.none y hy
 ·refine List.pairwise_cons.2 ⟨fun p hp j hj e1 => ?_, h.apart.filter _⟩
  exact hu1 p (List.mem_filter.1 hp).1 (delA_keys key p hp) j e1 hj
/-- 'delete(m, k)' -/
theorem wpList_delete_q (M : MapKd P k α Value) (d : Kd β) (hd : Flat d) (hg : o.guard = none) (m x : Operand) (t : TypeId) (hop : o.op = Op.call { callee := Callee.builtin Builtin.delete, args := #[m, x], argTypes := #[t, k] })
  (E e : TypeId) (ht : P.underlying t = some (.map k E)) (b base n : Nat) (ok : Nat → Prop) (Q Q' : α → List β) (hm : a.eval m = .map (some b)) {L : List (α × Value)} (h : QL M d e w b base ok n Q L) (key : α) (hx : a.eval x = M.eK key) (hgd : M.good key)
  (hsame : ∀ y, y ≠ key → Q' y = Q y) (hnil : Q' key = [])
  (hK : ∀ w', QL M d e w' b base ok n Q' (delA L key) → w.grownBy w' (some b) → w.heap.size = w'.heap.size → wpList P ops K rest (a.put o.dst (.tuple #[])) w') :
  wpList P ops K (o :: rest) a w := by
 refine wpList_delete_om w M hg m x t hop E ht b n L hm h.own key hx hgd (fun w' r1 r2 r3 => hK w' ⟨r1, fun p hp => ?_, fun y hy => ?_, h.apart.filter _⟩ r2 r3)
 ·have hk := delA_keys key p hp
  rw [hsame _ hk]
  have hz := h.row p (List.mem_filter.1 hp).1
  refine R_only hd hz (fun j hj => r2.block j (Kd.R_lt hz j hj) (fun e1 => ?_))
  obtain ⟨cells, hc⟩ := Kd.R_typed hz j hj
  obtain ⟨es, c, hm⟩ := MapKd.own_is h.own
  rw [Option.some.inj e1, hm] at hc; cases hc
 ·rw [getA_del] at hy
  split at hy
  ·rename_i c; rw [c, hnil]
  ·rename_i c
   rw [hsame y c]
   exact h.none y hy
end ops
end
/-! rows of sands; maps from times to them -/
def k4 : Kd Sd := Kd.pair (Kd.int .i64) (Kd.pair (Kd.int .i64) (Kd.pair (Kd.int .i64) (Kd.int .i64)))
theorem flat4 : Flat k4 := fun _ _ _ _ _ _ h => h
theorem k4_open {w : World} {x : Sd} {cs : List Value} (h : k4.K w x cs) : cs = [.int .i64 x.1, .int .i64 x.2.1, .int .i64 x.2.2.1, .int .i64 x.2.2.2] := by
 obtain ⟨_, _, rfl, rfl, ⟨_, _, rfl, rfl, ⟨_, _, rfl, rfl, rfl⟩⟩⟩ := h
 exact rfl
theorem k4_mkM (w : World) (base : Nat) (ok : Nat → Prop) (x : Sd) : k4.M w base ok x [.int .i64 x.1, .int .i64 x.2.1, .int .i64 x.2.2.1, .int .i64 x.2.2.2] := ⟨[.int .i64 x.1], [.int .i64 x.2.1, .int .i64 x.2.2.1, .int .i64 x.2.2.2], rfl, rfl, ⟨[.int .i64 x.2.1], [.int .i64 x.2.2.1, .int .i64 x.2.2.2], rfl, rfl, ⟨[.int .i64 x.2.2.1], [.int .i64 x.2.2.2], rfl, rfl, rfl⟩⟩⟩
theorem at_k4 {w : World} {A : Option Addr} {n : Nat} {xs : List Sd} (h : Kd.C k4 w A n xs) (i : Nat) (s : Sd) (hs : xs[i]? = some s) : ∃ ad, A = some ad ∧ w.cell? (ad.add (i * 4)) = some (.int .i64 s.1) ∧ w.cell? ⟨(ad.add (i * 4)).block, (ad.add (i * 4)).off + 1, none⟩ = some (.int .i64 s.2.1) ∧ w.cell? ⟨(ad.add (i * 4)).block, (ad.add (i * 4)).off + 2, none⟩ = some (.int .i64 s.2.2.1) ∧ w.cell? ⟨(ad.add (i * 4)).block, (ad.add (i * 4)).off + 3, none⟩ = some (.int .i64 s.2.2.2) := by
 have hl : i < xs.length := by
  rcases Nat.lt_or_ge i xs.length with q | q
  ·exact q
  ·rw [List.getElem?_eq_none q] at hs; cases hs
 obtain ⟨ad, c, e, _, hK, hc0⟩ := Kd.C_get h (0, 0, 0, 0) (i : Int) (by omega) (by have := Kd.C_len h; omega)
 have hc : ∀ j u, c[j]? = some u → w.cell? (ad.add (i * 4 + j)) = some u := hc0
 rw [show xs.getD (i : Int).toNat (0, 0, 0, 0) = s by rw [Int.toNat_natCast, List.getD_eq_getElem?_getD, hs]; rfl] at hK
 obtain rfl := k4_open hK
 exact ⟨ad, e, hc 0 _ rfl, by rw [← add_field _ _ 1 (by omega)]; exact hc 1 _ rfl, by rw [← add_field _ _ 2 (by omega)]; exact hc 2 _ rfl, by rw [← add_field _ _ 3 (by omega)]; exact hc 3 _ rfl⟩
def mkT : MapKd Try.prog 3 Int Value where
 eK := fun t => .int .i64 t
 lK := fun t => .int .i64 t
 good := fun t => 0 ≤ t ∧ t ≤ 4000000000
 eV := fun v => v
 law := int_keyed Try.underlying3
 key := fun t h => keyOf_int_mk Try.underlying3 (WalkArith.wf_i64 (by omega))
 inj := fun x y _ _ e => by injection e
 vinj := fun _ _ e => e
end Go.Proofs.Ytlhodfjdmafapaa
end
section
namespace Go.Proofs.Ytlhodfjdmafapaa
open Go.RowKit
set_option linter.unusedVariables false
set_option linter.unusedSimpArgs false
abbrev Spot : Type := Sd × Int
def setsL (k : Nat → Int) : List Int := ((List.range 16).map fun (i : Nat) => (i : Int)).filter (isSetB k)
theorem setsL_mem {k : Nat → Int} {x : Int} (h : x ∈ setsL k) : 0 ≤ x ∧ x ≤ 15 ∧ isSetB k x = true := by
 obtain ⟨h1, h2⟩ := List.mem_filter.1 h
 obtain ⟨i, hi, rfl⟩ := List.mem_map.1 h1
 have := List.mem_range.1 hi
 exact ⟨by omega, by omega, h2⟩
theorem setsL_len (k : Nat → Int) : (setsL k).length ≤ 16 := by
 unfold setsL
 exact Nat.le_trans (List.length_filter_le _ _) (by simp)
/-- how many glasses a set has -/
def ones (x : Int) : Int := x % 2 + x / 2 % 2 + x / 4 % 2 + x / 8 % 2
abbrev Nd {α β : Type} (L : List (α × β)) : Prop := L.Pairwise fun p q => p.1 ≠ q.1
open Classical in
theorem getA_cons {α β : Type} (a : α × β) (r : List (α × β)) (x : α) : getA (a :: r) x = if a.1 = x then some a.2 else getA r x := by
 unfold getA
 by_cases e : a.1 = x
 ·rw [List.find?_cons_of_pos (by simpa using e), if_pos e]; rfl
 ·rw [List.find?_cons_of_neg (by simpa using e), if_neg e]
theorem perm_of_mem {α : Type} : ∀ {l l' : List α}, l.Nodup → l'.Nodup → (∀ p, p ∈ l ↔ p ∈ l') → l.Perm l'
 | [], l', _, _, h => by
  cases l' with
  | nil => exact List.Perm.refl _
  | cons a r => exact absurd ((h a).2 List.mem_cons_self) (List.not_mem_nil)
 | a :: r, l', h1, h2, h => by
  obtain ⟨a1, a2⟩ := List.nodup_cons.1 h1
  obtain ⟨s, t, rfl⟩ := List.append_of_mem ((h a).1 List.mem_cons_self)
  have hp : (s ++ a :: t).Perm (a :: (s ++ t)) := List.perm_middle
  have h3 := hp.nodup_iff.1 h2
  obtain ⟨b1, b2⟩ := List.nodup_cons.1 h3
  refine (List.Perm.cons a (perm_of_mem a2 b2 (fun p => ⟨fun hm => ?_, fun hm => ?_⟩))).trans hp.symm
  ·have := hp.mem_iff.1 ((h p).1 (List.mem_cons_of_mem _ hm))
   rcases List.mem_cons.1 this with rfl | this
   ·exact absurd hm a1
   ·exact this
  ·have := (h p).2 (hp.mem_iff.2 (List.mem_cons_of_mem _ hm))
   rcases List.mem_cons.1 this with rfl | this
   ·exact absurd hm b1
   ·exact this
theorem nd_nodup {α β : Type} {L : List (α × β)} (h : Nd L) : L.Nodup := List.Pairwise.imp (fun {a b} hab e => hab (by rw [e])) h
theorem sand_tup {k g : Nat → Int} (h : Sand k g) : Sand k (fn4 (tup4 g)) :=
  ⟨fun i hi => by obtain rfl | rfl | rfl | rfl : i = 0 ∨ i = 1 ∨ i = 2 ∨ i = 3 := by omega
                  all_goals exact h.lo _ (by omega),
   fun i hi => by obtain rfl | rfl | rfl | rfl : i = 0 ∨ i = 1 ∨ i = 2 ∨ i = 3 := by omega
                  all_goals exact h.hi _ (by omega), h.top⟩
end Go.Proofs.Ytlhodfjdmafapaa
end
section
namespace Go.Proofs.Ytlhodfjdmafapaa
open Go.RowKit
set_option linter.unusedVariables false
set_option linter.unusedSimpArgs false
def idFrom (k : Nat → Int) (t : Int) (s : Nat → Int) : Int := wrap64 (wrap64 (wrap64 (wrap64 (wrap64 (wrap64 (wrap64 (wrap64 (t * wrap64 (k 0 + 1)) + s 0) * wrap64 (k 1 + 1)) + s 1) * wrap64 (k 2 + 1)) + s 2) * wrap64 (k 3 + 1)) + s 3)
end Go.Proofs.Ytlhodfjdmafapaa
end
section
namespace Go.Proofs.Ytlhodfjdmafapaa
open Go.RowKit Go.Proofs.YtlhodfjdmafapaaW.PrintWords
set_option linter.unusedVariables false
set_option linter.unusedSimpArgs false
theorem mix_b {v M c s : Int} (h0 : 0 ≤ v) (h1 : v < M) (s0 : 0 ≤ s) (s1 : s < c) : 0 ≤ v * c + s ∧ v * c + s < M * c := by
 have h2 : 0 ≤ v * c := Int.mul_nonneg h0 (by omega)
 have h3 : (v + 1) * c ≤ M * c := Int.mul_le_mul_of_nonneg_right (by omega) (by omega)
 rw [Int.add_mul, Int.one_mul] at h3
 omega
theorem mix_inj {v v' c s s' : Int} (s0 : 0 ≤ s) (s1 : s < c) (t0 : 0 ≤ s') (t1 : s' < c) (h : v * c + s = v' * c + s') : v = v' ∧ s = s' := by
 have a : (v * c + s) / c = v := by
  rw [Int.add_comm, Int.add_mul_ediv_right _ _ (by omega), Int.ediv_eq_zero_of_lt s0 s1, Int.zero_add]
 have b : (v' * c + s') / c = v' := by
  rw [Int.add_comm, Int.add_mul_ediv_right _ _ (by omega), Int.ediv_eq_zero_of_lt t0 t1, Int.zero_add]
 have e : v = v' := by rw [← a, h, b]
 subst e
 exact ⟨rfl, by omega⟩
theorem wrap_big {x : Int} (h : 0 ≤ x) (h2 : x ≤ 4000000000) : wrap64 x = x := by unfold wrap64; omega
theorem mul_le {v c A : Int} (h0 : 0 ≤ v) (h1 : v ≤ A) (c0 : 0 ≤ c) (c1 : c ≤ 31) : 0 ≤ v * c ∧ v * c ≤ A * 31 := by
 refine ⟨Int.mul_nonneg h0 c0, ?_⟩
 exact Int.le_trans (Int.mul_le_mul_of_nonneg_right h1 c0) (Int.mul_le_mul_of_nonneg_left c1 (by omega))
/-- the number of glasses' states, as it is -/
def prodT (k : Nat → Int) : Int := (k 0 + 1) * (k 1 + 1) * (k 2 + 1) * (k 3 + 1)
theorem prod_is {k : Nat → Int} (h : ∀ i, i < 4 → 0 ≤ k i ∧ k i ≤ 30) : prodOf k = prodT k ∧ 1 ≤ prodT k := by
 have h0 := h 0 (by omega)
 have h1 := h 1 (by omega)
 have h2 := h 2 (by omega)
 have h3 := h 3 (by omega)
 have a1 := mul_le (v := k 0 + 1) (c := k 1 + 1) (A := 31) (by omega) (by omega) (by omega) (by omega)
 have a2 := mul_le (v := (k 0 + 1) * (k 1 + 1)) (c := k 2 + 1) (A := 31 * 31) (by omega) (by omega) (by omega) (by omega)
 have a3 := mul_le (v := (k 0 + 1) * (k 1 + 1) * (k 2 + 1)) (c := k 3 + 1) (A := 31 * 31 * 31) (by omega) (by omega) (by omega) (by omega)
 have p1 : 1 ≤ (k 0 + 1) * (k 1 + 1) := Int.mul_pos (by omega) (by omega)
 have p2 : 1 ≤ (k 0 + 1) * (k 1 + 1) * (k 2 + 1) := Int.mul_pos (by omega) (by omega)
 have p3 : 1 ≤ (k 0 + 1) * (k 1 + 1) * (k 2 + 1) * (k 3 + 1) := Int.mul_pos (by omega) (by omega)
 refine ⟨?_, p3⟩
 unfold prodOf prodT
 rw [wrap_big (x := k 0 + 1) (by omega) (by omega), wrap_big (x := k 1 + 1) (by omega) (by omega), wrap_big (x := k 2 + 1) (by omega) (by omega), wrap_big (x := k 3 + 1) (by omega) (by omega),
  wrap_big (x := k 0 + 1) (by omega) (by omega), wrap_big (x := (k 0 + 1) * (k 1 + 1)) (by omega) (by omega), wrap_big (x := (k 0 + 1) * (k 1 + 1) * (k 2 + 1)) (by omega) (by omega), wrap_big (by omega) (by omega)]
def Val (k : Nat → Int) (most : Int) (x : Spot) : Prop := Sand k (fn4 x.1) ∧ 0 ≤ x.2 ∧ x.2 ≤ most
def sid (k : Nat → Int) (x : Spot) : Int := idFrom k x.2 (fn4 x.1)
def sidT (k : Nat → Int) (x : Spot) : Int := (((x.2 * (k 0 + 1) + x.1.1) * (k 1 + 1) + x.1.2.1) * (k 2 + 1) + x.1.2.2.1) * (k 3 + 1) + x.1.2.2.2
theorem sid_is {k : Nat → Int} {most : Int} (hm : most ≤ 40) {x : Spot} (h : Val k most x) : sid k x = sidT k x ∧ 0 ≤ sidT k x ∧ sidT k x < (x.2 + 1) * prodT k := by
 obtain ⟨⟨s0, s1, s2, s3⟩, t⟩ := x
 obtain ⟨hs, t0, t1⟩ := h
 have l0 : 0 ≤ s0 := hs.lo 0 (by omega)
 have l1 : 0 ≤ s1 := hs.lo 1 (by omega)
 have l2 : 0 ≤ s2 := hs.lo 2 (by omega)
 have l3 : 0 ≤ s3 := hs.lo 3 (by omega)
 have u0 : s0 ≤ k 0 := hs.hi 0 (by omega)
 have u1 : s1 ≤ k 1 := hs.hi 1 (by omega)
 have u2 : s2 ≤ k 2 := hs.hi 2 (by omega)
 have u3 : s3 ≤ k 3 := hs.hi 3 (by omega)
 have m0 := hs.top 0 (by omega)
 have m1 := hs.top 1 (by omega)
 have m2 := hs.top 2 (by omega)
 have m3 := hs.top 3 (by omega)
 have t0' : 0 ≤ t := t0
 have t1' : t ≤ most := t1
 have b0 := mix_b (v := t) (M := t + 1) (c := k 0 + 1) (s := s0) t0' (by omega) l0 (by omega)
 have b1 := mix_b (v := t * (k 0 + 1) + s0) (M := (t + 1) * (k 0 + 1)) (c := k 1 + 1) (s := s1) b0.1 b0.2 l1 (by omega)
 have b2 := mix_b (v := (t * (k 0 + 1) + s0) * (k 1 + 1) + s1) (M := (t + 1) * (k 0 + 1) * (k 1 + 1)) (c := k 2 + 1) (s := s2) b1.1 b1.2 l2 (by omega)
 have b3 := mix_b (v := ((t * (k 0 + 1) + s0) * (k 1 + 1) + s1) * (k 2 + 1) + s2) (M := (t + 1) * (k 0 + 1) * (k 1 + 1) * (k 2 + 1)) (c := k 3 + 1) (s := s3) b2.1 b2.2 l3 (by omega)
 have a0 := mul_le (v := t) (c := k 0 + 1) (A := 40) t0' (by omega) (by omega) (by omega)
 have a1 := mul_le (v := t * (k 0 + 1) + s0) (c := k 1 + 1) (A := 40 * 31 + 30) b0.1 (by omega) (by omega) (by omega)
 have a2 := mul_le (v := (t * (k 0 + 1) + s0) * (k 1 + 1) + s1) (c := k 2 + 1) (A := (40 * 31 + 30) * 31 + 30) b1.1 (by omega) (by omega) (by omega)
 have a3 := mul_le (v := ((t * (k 0 + 1) + s0) * (k 1 + 1) + s1) * (k 2 + 1) + s2) (c := k 3 + 1) (A := ((40 * 31 + 30) * 31 + 30) * 31 + 30) b2.1 (by omega) (by omega) (by omega)
 refine ⟨?_, b3.1, ?_⟩
 ·show idFrom k t (fn4 (s0, s1, s2, s3)) = (((t * (k 0 + 1) + s0) * (k 1 + 1) + s1) * (k 2 + 1) + s2) * (k 3 + 1) + s3
  unfold idFrom
  show wrap64 (wrap64 (wrap64 (wrap64 (wrap64 (wrap64 (wrap64 (wrap64 (t * wrap64 (k 0 + 1)) + s0) * wrap64 (k 1 + 1)) + s1) * wrap64 (k 2 + 1)) + s2) * wrap64 (k 3 + 1)) + s3) = _
  rw [wrap_big (x := k 0 + 1) (by omega) (by omega), wrap_big (x := k 1 + 1) (by omega) (by omega), wrap_big (x := k 2 + 1) (by omega) (by omega), wrap_big (x := k 3 + 1) (by omega) (by omega),
   wrap_big (x := t * (k 0 + 1)) (by omega) (by omega), wrap_big (x := t * (k 0 + 1) + s0) (by omega) (by omega), wrap_big (x := (t * (k 0 + 1) + s0) * (k 1 + 1)) (by omega) (by omega), wrap_big (x := (t * (k 0 + 1) + s0) * (k 1 + 1) + s1) (by omega) (by omega),
   wrap_big (x := ((t * (k 0 + 1) + s0) * (k 1 + 1) + s1) * (k 2 + 1)) (by omega) (by omega), wrap_big (x := ((t * (k 0 + 1) + s0) * (k 1 + 1) + s1) * (k 2 + 1) + s2) (by omega) (by omega), wrap_big (x := (((t * (k 0 + 1) + s0) * (k 1 + 1) + s1) * (k 2 + 1) + s2) * (k 3 + 1)) (by omega) (by omega), wrap_big (by omega) (by omega)]
 ·have e : (t + 1) * prodT k = (t + 1) * (k 0 + 1) * (k 1 + 1) * (k 2 + 1) * (k 3 + 1) := by
   unfold prodT; simp only [Int.mul_assoc]
  show _ < (t + 1) * prodT k
  rw [e]
  exact b3.2
theorem sid_inj {k : Nat → Int} {most : Int} (hm : most ≤ 40) {x y : Spot} (hx : Val k most x) (hy : Val k most y) (e : sid k x = sid k y) : x = y := by
 rw [(sid_is hm hx).1, (sid_is hm hy).1] at e
 obtain ⟨⟨s0, s1, s2, s3⟩, t⟩ := x
 obtain ⟨⟨r0, r1, r2, r3⟩, u⟩ := y
 have hs := hx.1
 have hr := hy.1
 have l : ∀ (s : Sd), Sand k (fn4 s) → (0 ≤ s.1 ∧ s.1 < k 0 + 1) ∧ (0 ≤ s.2.1 ∧ s.2.1 < k 1 + 1) ∧ (0 ≤ s.2.2.1 ∧ s.2.2.1 < k 2 + 1) ∧ (0 ≤ s.2.2.2 ∧ s.2.2.2 < k 3 + 1) := fun s h =>
  ⟨⟨h.lo 0 (by omega), by have : s.1 ≤ k 0 := h.hi 0 (by omega); omega⟩, ⟨h.lo 1 (by omega), by have : s.2.1 ≤ k 1 := h.hi 1 (by omega); omega⟩, ⟨h.lo 2 (by omega), by have : s.2.2.1 ≤ k 2 := h.hi 2 (by omega); omega⟩, ⟨h.lo 3 (by omega), by have : s.2.2.2 ≤ k 3 := h.hi 3 (by omega); omega⟩⟩
 obtain ⟨p0, p1, p2, p3⟩ := l _ hs
 obtain ⟨q0, q1, q2, q3⟩ := l _ hr
 obtain ⟨e, e3⟩ := mix_inj p3.1 p3.2 q3.1 q3.2 e
 obtain ⟨e, e2⟩ := mix_inj p2.1 p2.2 q2.1 q2.2 e
 obtain ⟨e, e1⟩ := mix_inj p1.1 p1.2 q1.1 q1.2 e
 obtain ⟨e, e0⟩ := mix_inj p0.1 p0.2 q0.1 q0.2 e
 simp only at e e0 e1 e2 e3
 subst e; subst e0; subst e1; subst e2; subst e3
 rfl
theorem few_nats : ∀ (N : Nat) (l : List Nat), l.Nodup → (∀ x ∈ l, x < N) → l.length ≤ N
 | 0, l, _, h => by
  cases l with
  | nil => simp
  | cons a r => exact absurd (h a List.mem_cons_self) (Nat.not_lt_zero a)
 | N + 1, l, hn, h => by
  by_cases q : N ∈ l
  ·obtain ⟨s, t, rfl⟩ := List.append_of_mem q
   have hp : (s ++ N :: t).Perm (N :: (s ++ t)) := List.perm_middle
   obtain ⟨a1, a2⟩ := List.nodup_cons.1 (hp.nodup_iff.1 hn)
   have := few_nats N (s ++ t) a2 (fun x hx => by
    have h1 := h x (hp.mem_iff.2 (List.mem_cons_of_mem _ hx))
    have h2 : x ≠ N := fun e => a1 (e ▸ hx)
    omega)
   rw [hp.length_eq, List.length_cons]
   omega
  ·have := few_nats N l hn (fun x hx => by
    have h1 := h x hx
    have h2 : x ≠ N := fun e => q (e ▸ hx)
    omega)
   omega
end Go.Proofs.Ytlhodfjdmafapaa
end
section
namespace Go.Proofs.Ytlhodfjdmafapaa
open Go.RowKit
set_option linter.unusedVariables false
set_option linter.unusedSimpArgs false
def goS (k : Nat → Int) (x : Sd) (set : Int) : Sd := tup4 (stepS k (fn4 x) set)
def goD (k : Nat → Int) (x : Sd) (set : Int) : Int := stepD k (fn4 x) set
def calm0 : Sd := (0, 0, 0, 0)
inductive Reach (k : Nat → Int) : Sd → Int → Prop
 | calm : Reach k calm0 0
 | step (x : Sd) (t set : Int) : Reach k x t → set ∈ setsL k → 0 < goD k x set → Reach k (goS k x set) (t + goD k x set)
theorem calm_sand {k : Nat → Int} (hk : ∀ i, i < 4 → 0 ≤ k i ∧ k i ≤ 30) : Sand k (fn4 calm0) :=
  ⟨fun i hi => by obtain rfl | rfl | rfl | rfl : i = 0 ∨ i = 1 ∨ i = 2 ∨ i = 3 := by omega
                  all_goals exact Int.le_refl 0,
   fun i hi => by have := (hk i hi).1
                  obtain rfl | rfl | rfl | rfl : i = 0 ∨ i = 1 ∨ i = 2 ∨ i = 3 := by omega
                  all_goals exact this, fun i hi => (hk i hi).2⟩
theorem Reach.sand {k : Nat → Int} (hk : ∀ i, i < 4 → 0 ≤ k i ∧ k i ≤ 30) {x : Sd} {t : Int} (h : Reach k x t) : Sand k (fn4 x) ∧ 0 ≤ t := by
 induction h with
 | calm => exact ⟨calm_sand hk, Int.le_refl 0⟩
 | step x t set _ _ hd ih => exact ⟨sand_tup (ih.1.step set), by have := ih.2; omega⟩
/-- all sands that are met, with their least times -/
structure Met (k : Nat → Int) (M : List (Sd × Int)) : Prop where
 nd : Nd M
 calm : (calm0, 0) ∈ M
 reach : ∀ p ∈ M, Reach k p.1 p.2
 next : ∀ p ∈ M, ∀ set ∈ setsL k, 0 < goD k p.1 set → ∃ t, t ≤ p.2 + goD k p.1 set ∧ (goS k p.1 set, t) ∈ M
theorem nd_one {α β : Type} {M : List (α × β)} (h : Nd M) {x : α} {a b : β} (ha : (x, a) ∈ M) (hb : (x, b) ∈ M) : a = b := by
 have h1 := getA_mem h ha
 have h2 := getA_mem h hb
 rw [h1] at h2
 exact Option.some.inj h2
theorem Met.least {k : Nat → Int} {M : List (Sd × Int)} (h : Met k M) {x : Sd} {t : Int} (r : Reach k x t) : ∃ t', t' ≤ t ∧ (x, t') ∈ M := by
 induction r with
 | calm => exact ⟨0, Int.le_refl 0, h.calm⟩
 | step x t set _ hs hd ih =>
  obtain ⟨t', h1, h2⟩ := ih
  obtain ⟨u, h3, h4⟩ := h.next _ h2 set hs hd
  exact ⟨u, by simp only at h3; omega, h4⟩
theorem Met.sub {k : Nat → Int} {M M' : List (Sd × Int)} (h : Met k M) (h' : Met k M') : ∀ p, p ∈ M → p ∈ M' := by
 rintro ⟨x, t⟩ hp
 obtain ⟨t', a1, a2⟩ := h'.least (h.reach _ hp)
 obtain ⟨t'', b1, b2⟩ := h.least (h'.reach _ a2)
 have := nd_one h.nd hp b2
 obtain rfl : t' = t := by simp only at a1 b1; omega
 exact a2
theorem Met.perm {k : Nat → Int} {M M' : List (Sd × Int)} (h : Met k M) (h' : Met k M') : M.Perm M' :=
 perm_of_mem (nd_nodup h.nd) (nd_nodup h'.nd) (fun p => ⟨h.sub h' p, h'.sub h p⟩)
open Classical in
noncomputable def metL (k : Nat → Int) : List (Sd × Int) := if h : ∃ M, Met k M then h.choose else []
theorem metL_met {k : Nat → Int} {M : List (Sd × Int)} (h : Met k M) : Met k (metL k) := by
 unfold metL
 rw [dif_pos ⟨M, h⟩]
 exact Exists.choose_spec (⟨M, h⟩ : ∃ M, Met k M)
theorem metL_perm {k : Nat → Int} {M : List (Sd × Int)} (h : Met k M) : M.Perm (metL k) := h.perm (metL_met h)
theorem few31 {k : Nat → Int} (hk : ∀ i, i < 4 → 0 ≤ k i ∧ k i ≤ 30) {M : List (Sd × Int)} (hn : Nd M) (hr : ∀ p ∈ M, Reach k p.1 p.2) : M.length ≤ 923521 := by
 have := few_nats 923521 (M.map fun e => (((e.1.1 * 31 + e.1.2.1) * 31 + e.1.2.2.1) * 31 + e.1.2.2.2).toNat) (by
  unfold List.Nodup
  rw [List.pairwise_map]
  refine List.Pairwise.imp_of_mem ?_ hn
  rintro ⟨⟨a0, a1, a2, a3⟩, t⟩ ⟨⟨b0, b1, b2, b3⟩, u⟩ hp hq hne e
  obtain ⟨ha, _⟩ := (hr _ hp).sand hk
  obtain ⟨hb, _⟩ := (hr _ hq).sand hk
  have p0 : 0 ≤ a0 ∧ a0 ≤ k 0 ∧ k 0 ≤ 30 := ⟨ha.lo 0 (by omega), ha.hi 0 (by omega), ha.top 0 (by omega)⟩
  have p1 : 0 ≤ a1 ∧ a1 ≤ k 1 ∧ k 1 ≤ 30 := ⟨ha.lo 1 (by omega), ha.hi 1 (by omega), ha.top 1 (by omega)⟩
  have p2 : 0 ≤ a2 ∧ a2 ≤ k 2 ∧ k 2 ≤ 30 := ⟨ha.lo 2 (by omega), ha.hi 2 (by omega), ha.top 2 (by omega)⟩
  have p3 : 0 ≤ a3 ∧ a3 ≤ k 3 ∧ k 3 ≤ 30 := ⟨ha.lo 3 (by omega), ha.hi 3 (by omega), ha.top 3 (by omega)⟩
  have q0 : 0 ≤ b0 ∧ b0 ≤ k 0 := ⟨hb.lo 0 (by omega), hb.hi 0 (by omega)⟩
  have q1 : 0 ≤ b1 ∧ b1 ≤ k 1 := ⟨hb.lo 1 (by omega), hb.hi 1 (by omega)⟩
  have q2 : 0 ≤ b2 ∧ b2 ≤ k 2 := ⟨hb.lo 2 (by omega), hb.hi 2 (by omega)⟩
  have q3 : 0 ≤ b3 ∧ b3 ≤ k 3 := ⟨hb.lo 3 (by omega), hb.hi 3 (by omega)⟩
  apply hne
  simp only at e
  show (a0, a1, a2, a3) = (b0, b1, b2, b3)
  have e3 : a3 = b3 := by omega
  have e2 : a2 = b2 := by omega
  have e1 : a1 = b1 := by omega
  have e0 : a0 = b0 := by omega
  rw [e0, e1, e2, e3]) (fun x hx => by
  obtain ⟨⟨⟨a0, a1, a2, a3⟩, t⟩, he, rfl⟩ := List.mem_map.1 hx
  obtain ⟨ha, _⟩ := (hr _ he).sand hk
  have p0 : 0 ≤ a0 ∧ a0 ≤ k 0 ∧ k 0 ≤ 30 := ⟨ha.lo 0 (by omega), ha.hi 0 (by omega), ha.top 0 (by omega)⟩
  have p1 : 0 ≤ a1 ∧ a1 ≤ k 1 ∧ k 1 ≤ 30 := ⟨ha.lo 1 (by omega), ha.hi 1 (by omega), ha.top 1 (by omega)⟩
  have p2 : 0 ≤ a2 ∧ a2 ≤ k 2 ∧ k 2 ≤ 30 := ⟨ha.lo 2 (by omega), ha.hi 2 (by omega), ha.top 2 (by omega)⟩
  have p3 : 0 ≤ a3 ∧ a3 ≤ k 3 ∧ k 3 ≤ 30 := ⟨ha.lo 3 (by omega), ha.hi 3 (by omega), ha.top 3 (by omega)⟩
  simp only
  omega)
 simpa using this
/-! the program's way -/
def updQ (Q : Int → List Sd) (t : Int) (l : List Sd) : Int → List Sd := fun u => if u = t then l else Q u
theorem updQ_same (Q : Int → List Sd) (t : Int) (l : List Sd) : updQ Q t l t = l := by unfold updQ; rw [if_pos rfl]
theorem updQ_ne (Q : Int → List Sd) {t u : Int} (l : List Sd) (h : u ≠ t) : updQ Q t l u = Q u := by unfold updQ; rw [if_neg h]
/-- what waits behind position i of the list of 'time' -/
def Pend (Q : Int → List Sd) (time : Int) (i : Nat) (t : Int) (s : Sd) : Prop := (time < t ∧ s ∈ Q t) ∨ (t = time ∧ s ∈ (Q time).drop i)
structure MInv (k : Nat → Int) (M : List (Sd × Int)) (Q : Int → List Sd) (time last : Int) (i : Nat) (x : Sd) (rest : List Int) : Prop where
 nd : Nd M
 reach : ∀ p ∈ M, Reach k p.1 p.2
 old : ∀ p ∈ M, p.2 ≤ time
 queue : ∀ t s, s ∈ Q t → Reach k s t
 calm : (calm0, 0) ∈ M ∨ Pend Q time i 0 calm0
 next : ∀ p ∈ M, ∀ set ∈ setsL k, 0 < goD k p.1 set → (p.1 = x ∧ set ∈ rest) ∨ (∃ t, t ≤ p.2 + goD k p.1 set ∧ (goS k p.1 set, t) ∈ M) ∨ Pend Q time i (p.2 + goD k p.1 set) (goS k p.1 set)
 lastQ : ∀ t s, s ∈ Q t → t ≤ last
 lastB : last ≤ 30 * (M.length : Int)
 cur : rest = [] ∨ ((x, time) ∈ M ∧ time + 30 ≤ 30 * (M.length : Int))
 len : ∀ t, (Q t).length + rest.length ≤ 1 + 16 * M.length
 sub : ∀ set ∈ rest, set ∈ setsL k
 t0 : 0 ≤ time
 l0 : 0 ≤ last
def startQ : Int → List Sd := updQ (fun _ => []) 0 [calm0]
theorem MInv.start (k : Nat → Int) : MInv k [] startQ 0 0 0 calm0 [] where
 nd := List.Pairwise.nil
 reach := fun p hp => absurd hp List.not_mem_nil
 old := fun p hp => absurd hp List.not_mem_nil
 queue := fun t s hs => by
  by_cases e : t = 0
  ·subst e
   rw [startQ, updQ_same] at hs
   rw [List.mem_singleton.1 hs]
   exact Reach.calm
  ·rw [startQ, updQ_ne _ _ e] at hs
   exact absurd hs List.not_mem_nil
 calm := .inr (.inr ⟨rfl, by rw [startQ, updQ_same]; exact List.mem_cons_self⟩)
 next := fun p hp => absurd hp List.not_mem_nil
 lastQ := fun t s hs => by
  by_cases e : t = 0
  ·omega
  ·rw [startQ, updQ_ne _ _ e] at hs
   exact absurd hs List.not_mem_nil
 lastB := by simp
 cur := .inl rfl
 len := fun t => by
  by_cases e : t = 0
  ·subst e; rw [startQ, updQ_same]; simp
  ·rw [startQ, updQ_ne _ _ e]; simp
 sub := fun s hs => absurd hs List.not_mem_nil
 t0 := Int.le_refl 0
 l0 := Int.le_refl 0
section
variable {k : Nat → Int} {M : List (Sd × Int)} {Q : Int → List Sd} {time last : Int} {i : Nat} {x : Sd} {rest : List Int}
theorem Pend.next {t : Int} {s s0 : Sd} (h : Pend Q time i t s) (h0 : (Q time)[i]? = some s0) : Pend Q time (i + 1) t s ∨ (t = time ∧ s = s0) := by
 rcases h with h | ⟨h1, h2⟩
 ·exact .inl (.inl h)
 ·have hl : i < (Q time).length := by
   rcases Nat.lt_or_ge i (Q time).length with q | q
   ·exact q
   ·rw [List.getElem?_eq_none q] at h0; cases h0
  rw [List.drop_eq_getElem_cons hl] at h2
  have e : (Q time)[i] = s0 := by rw [List.getElem?_eq_getElem hl] at h0; exact Option.some.inj h0
  rw [e] at h2
  rcases List.mem_cons.1 h2 with h2 | h2
  ·exact .inr ⟨h1, h2⟩
  ·exact .inl (.inr ⟨h1, h2⟩)
/-- the sand is there already -/
theorem MInv.skip (h : MInv k M Q time last i x []) {s : Sd} {t0 : Int} (hs : (Q time)[i]? = some s) (hm : (s, t0) ∈ M) : MInv k M Q time last (i + 1) x [] where
 nd := h.nd
 reach := h.reach
 old := h.old
 queue := h.queue
 calm := by
  rcases h.calm with c | c
  ·exact .inl c
  ·rcases c.next hs with c | ⟨c1, c2⟩
   ·exact .inr c
   ·subst c2
    have h1 := h.old _ hm
    have h2 : 0 ≤ t0 := by
     obtain ⟨u, hu⟩ : ∃ u, u = t0 := ⟨_, rfl⟩
     have : ∀ {y : Sd} {v : Int}, Reach k y v → 0 ≤ v := fun r => by
      induction r with
      | calm => exact Int.le_refl 0
      | step _ _ _ _ _ hd ih => omega
     exact this (h.reach _ hm)
    simp only at h1
    obtain rfl : t0 = 0 := by omega
    exact .inl hm
 next := fun p hp set hset hd => by
  rcases h.next p hp set hset hd with c | c | c
  ·exact .inl c
  ·exact .inr (.inl c)
  ·rcases c.next hs with c | ⟨c1, c2⟩
   ·exact .inr (.inr c)
   ·rw [c2]
    have := h.old _ hm
    exact .inr (.inl ⟨t0, by simp only at this; omega, hm⟩)
 lastQ := h.lastQ
 lastB := h.lastB
 cur := h.cur
 len := h.len
 sub := h.sub
 t0 := h.t0
 l0 := h.l0
theorem delA_absent {α β : Type} {L : List (α × β)} {x : α} (h : getA L x = none) : delA L x = L := by
 unfold delA
 rw [List.filter_eq_self]
 intro p hp
 simpa using getA_none h p hp
theorem putA_absent {α β : Type} {L : List (α × β)} {x : α} {y : β} (h : getA L x = none) : putA L x y = (x, y) :: L := by rw [putA, delA_absent h]
/-- the sand is met now -/
theorem MInv.settle (h : MInv k M Q time last i x []) (hl : time ≤ last) {s : Sd} (hs : (Q time)[i]? = some s) (hm : getA M s = none) : MInv k (putA M s time) Q time last (i + 1) s (setsL k) := by
 have e := putA_absent (y := time) hm
 have hlen : (putA M s time).length = M.length + 1 := by rw [e]; rfl
 refine ⟨putA_nodup h.nd s time, fun p hp => ?_, fun p hp => ?_, h.queue, ?_, fun p hp set hset hd => ?_, h.lastQ, ?_, .inr ⟨by rw [e]; exact List.mem_cons_self, ?_⟩, fun t => ?_, fun _ hh => hh, h.t0, h.l0⟩
 ·rw [e] at hp
  rcases List.mem_cons.1 hp with rfl | hp
  ·exact h.queue _ _ (List.mem_of_getElem? hs)
  ·exact h.reach _ hp
 ·rw [e] at hp
  rcases List.mem_cons.1 hp with rfl | hp
  ·exact Int.le_refl _
  ·exact h.old _ hp
 ·rw [e]
  rcases h.calm with c | c
  ·exact .inl (List.mem_cons_of_mem _ c)
  ·rcases c.next hs with c | ⟨c1, c2⟩
   ·exact .inr c
   ·rw [c1, c2]; exact .inl List.mem_cons_self
 ·rw [e] at hp ⊢
  rcases List.mem_cons.1 hp with rfl | hp
  ·exact .inl ⟨rfl, hset⟩
  ·rcases h.next p hp set hset hd with ⟨_, c⟩ | ⟨t, c1, c2⟩ | c
   ·exact absurd c List.not_mem_nil
   ·exact .inr (.inl ⟨t, c1, List.mem_cons_of_mem _ c2⟩)
   ·rcases c.next hs with c | ⟨c1, c2⟩
    ·exact .inr (.inr c)
    ·exact .inr (.inl ⟨time, by omega, by rw [c2]; exact List.mem_cons_self⟩)
 ·rw [hlen]; have := h.lastB; omega
 ·rw [hlen]; have := h.lastB; omega
 ·have h1 := h.len t
  have h2 := setsL_len k
  rw [hlen]
  simp only [List.length_nil] at h1
  omega
/-- nothing runs, or the next sand is there -/
theorem MInv.drop {set : Int} (h : MInv k M Q time last i x (set :: rest)) (hc : goD k x set ≤ 0 ∨ ∃ t, (goS k x set, t) ∈ M) : MInv k M Q time last i x rest where
 nd := h.nd
 reach := h.reach
 old := h.old
 queue := h.queue
 calm := h.calm
 next := fun p hp st hset hd => by
  rcases h.next p hp st hset hd with ⟨c1, c2⟩ | c
  ·rcases List.mem_cons.1 c2 with rfl | c2
   ·rw [c1] at hd
    rcases hc with hc | ⟨t, hc⟩
    ·omega
    ·refine .inr (.inl ⟨t, ?_, by rw [c1]; exact hc⟩)
     have h1 := h.old _ hc
     rcases h.cur with q | ⟨q, _⟩
     ·cases q
     ·have e : p.2 = time := nd_one h.nd (x := x) (by rw [← c1]; exact hp) q
      rw [c1, e]
      simp only at h1
      omega
   ·exact .inl ⟨c1, c2⟩
  ·exact .inr c
 lastQ := h.lastQ
 lastB := h.lastB
 cur := by
  rcases h.cur with q | q
  ·cases q
  ·exact .inr q
 len := fun t => by have := h.len t; simp only [List.length_cons] at this; omega
 sub := fun s hs => h.sub s (List.mem_cons_of_mem _ hs)
 t0 := h.t0
 l0 := h.l0
/-- the next sand is put into the queue -/
theorem MInv.push {set : Int} (h : MInv k M Q time last i x (set :: rest)) (hd : 0 < goD k x set) (h30 : goD k x set ≤ 30) : MInv k M (updQ Q (time + goD k x set) (Q (time + goD k x set) ++ [goS k x set])) time (max last (time + goD k x set)) i x rest := by
 obtain ⟨hx, hb⟩ : (x, time) ∈ M ∧ time + 30 ≤ 30 * (M.length : Int) := by
  rcases h.cur with q | q
  ·cases q
  ·exact q
 have hself : updQ Q (time + goD k x set) (Q (time + goD k x set) ++ [goS k x set]) time = Q time := updQ_ne _ _ (by omega)
 have hpend : ∀ t s, Pend Q time i t s → Pend (updQ Q (time + goD k x set) (Q (time + goD k x set) ++ [goS k x set])) time i t s := fun t s c => by
  rcases c with ⟨c1, c2⟩ | ⟨c1, c2⟩
  ·refine .inl ⟨c1, ?_⟩
   by_cases q : t = time + goD k x set
   ·rw [q, updQ_same]; rw [q] at c2; exact List.mem_append_left _ c2
   ·rw [updQ_ne _ _ q]; exact c2
  ·exact .inr ⟨c1, by rw [hself]; exact c2⟩
 refine ⟨h.nd, h.reach, h.old, fun t s hs => ?_, ?_, fun p hp st hset hd2 => ?_, fun t s hs => ?_, ?_, .inr ⟨hx, hb⟩, fun t => ?_, fun s hs => h.sub s (List.mem_cons_of_mem _ hs), h.t0, by have := h.l0; omega⟩
 ·by_cases q : t = time + goD k x set
  ·rw [q, updQ_same] at hs
   rcases List.mem_append.1 hs with hs | hs
   ·rw [q]; exact h.queue _ _ hs
   ·rw [q, List.mem_singleton.1 hs]
    exact Reach.step x time set (h.reach _ hx) (h.sub set List.mem_cons_self) hd
  ·rw [updQ_ne _ _ q] at hs
   exact h.queue _ _ hs
 ·rcases h.calm with c | c
  ·exact .inl c
  ·exact .inr (hpend _ _ c)
 ·rcases h.next p hp st hset hd2 with ⟨c1, c2⟩ | c | c
  ·rcases List.mem_cons.1 c2 with rfl | c2
   ·have e : p.2 = time := nd_one h.nd (x := x) (by rw [← c1]; exact hp) hx
    refine .inr (.inr (.inl ⟨?_, ?_⟩))
    ·rw [e]; omega
    ·rw [c1, e, updQ_same]; exact List.mem_append_right _ List.mem_cons_self
   ·exact .inl ⟨c1, c2⟩
  ·exact .inr (.inl c)
  ·exact .inr (.inr (hpend _ _ c))
 ·by_cases q : t = time + goD k x set
  ·omega
  ·rw [updQ_ne _ _ q] at hs
   have := h.lastQ _ _ hs
   omega
 ·have := h.lastB
  omega
 ·have h1 := h.len t
  simp only [List.length_cons] at h1
  by_cases q : t = time + goD k x set
  ·rw [q, updQ_same]
   rw [q] at h1
   simp only [List.length_append, List.length_cons, List.length_nil]
   omega
  ·rw [updQ_ne _ _ q]; omega
/-- the list of this time is done -/
theorem MInv.tick (h : MInv k M Q time last i x []) (hi : (Q time).length ≤ i) : MInv k M (updQ Q time []) (time + 1) last 0 calm0 [] := by
 have hpend : ∀ t s, Pend Q time i t s → Pend (updQ Q time []) (time + 1) 0 t s := fun t s c => by
  rcases c with ⟨c1, c2⟩ | ⟨c1, c2⟩
  ·by_cases q : t = time + 1
   ·exact .inr ⟨q, by rw [List.drop_zero, updQ_ne _ _ (by omega)]; rw [q] at c2; exact c2⟩
   ·exact .inl ⟨by omega, by rw [updQ_ne _ _ (by omega)]; exact c2⟩
  ·rw [List.drop_eq_nil_of_le hi] at c2
   exact absurd c2 List.not_mem_nil
 refine ⟨h.nd, h.reach, fun p hp => by have := h.old p hp; omega, fun t s hs => ?_, ?_, fun p hp set hset hd => ?_, fun t s hs => ?_, h.lastB, .inl rfl, fun t => ?_, fun _ hs => absurd hs List.not_mem_nil, by have := h.t0; omega, h.l0⟩
 ·by_cases q : t = time
  ·rw [q, updQ_same] at hs; exact absurd hs List.not_mem_nil
  ·rw [updQ_ne _ _ q] at hs; exact h.queue _ _ hs
 ·rcases h.calm with c | c
  ·exact .inl c
  ·exact .inr (hpend _ _ c)
 ·rcases h.next p hp set hset hd with ⟨_, c⟩ | c | c
  ·exact absurd c List.not_mem_nil
  ·exact .inr (.inl c)
  ·exact .inr (.inr (hpend _ _ c))
 ·by_cases q : t = time
  ·rw [q, updQ_same] at hs; exact absurd hs List.not_mem_nil
  ·rw [updQ_ne _ _ q] at hs; exact h.lastQ _ _ hs
 ·have := h.len t
  by_cases q : t = time
  ·rw [q, updQ_same]; simp only [List.length_nil]; omega
  ·rw [updQ_ne _ _ q]; exact this
theorem MInv.any (h : MInv k M Q time last i x []) (y : Sd) : MInv k M Q time last i y [] :=
 ⟨h.nd, h.reach, h.old, h.queue, h.calm, fun p hp set hset hd => (h.next p hp set hset hd).imp (fun c => absurd c.2 List.not_mem_nil) (fun c => c), h.lastQ, h.lastB, .inl rfl, h.len, fun _ hs => absurd hs List.not_mem_nil, h.t0, h.l0⟩
theorem MInv.met (h : MInv k M Q time last 0 x []) (hl : last < time) : Met k M := by
 have hpend : ∀ t s, ¬ Pend Q time 0 t s := fun t s c => by
  rcases c with ⟨c1, c2⟩ | ⟨c1, c2⟩
  ·have := h.lastQ _ _ c2; omega
  ·have := h.lastQ _ _ (List.mem_of_mem_drop c2); omega
 refine ⟨h.nd, ?_, h.reach, fun p hp set hset hd => ?_⟩
 ·rcases h.calm with c | c
  ·exact c
  ·exact absurd c (hpend _ _)
 ·rcases h.next p hp set hset hd with ⟨_, c⟩ | c | c
  ·exact absurd c List.not_mem_nil
  ·exact c
  ·exact absurd c (hpend _ _)
end
end Go.Proofs.Ytlhodfjdmafapaa
end
section
namespace Go.Proofs.Ytlhodfjdmafapaa
open Go.RowKit
set_option linter.unusedVariables false
set_option linter.unusedSimpArgs false
abbrev Edge : Type := Sd × Int
def edgeAdd (k : Nat → Int) (x : Sd) (acc : List Edge) (set : Int) : List Edge := if 0 < goD k x set ∧ (goS k x set, goD k x set) ∉ acc then acc ++ [(goS k x set, goD k x set)] else acc
/-- the steps from a sand, each once -/
def edgesL (k : Nat → Int) (x : Sd) : List Edge := (setsL k).foldl (edgeAdd k x) []
theorem edge_fold {k : Nat → Int} {x : Sd} : ∀ (l : List Int) (acc : List Edge) (e : Edge), e ∈ l.foldl (edgeAdd k x) acc ↔ e ∈ acc ∨ ∃ set ∈ l, 0 < goD k x set ∧ e = (goS k x set, goD k x set)
 | [], acc, e => by simp
 | a :: l, acc, e => by
  rw [List.foldl_cons, edge_fold l]
  have h : e ∈ edgeAdd k x acc a ↔ e ∈ acc ∨ (0 < goD k x a ∧ e = (goS k x a, goD k x a)) := by
   unfold edgeAdd
   by_cases c : 0 < goD k x a ∧ (goS k x a, goD k x a) ∉ acc
   ·rw [if_pos c, List.mem_append, List.mem_singleton]
    constructor
    ·rintro (h | h)
     ·exact .inl h
     ·exact .inr ⟨c.1, h⟩
    ·rintro (h | h)
     ·exact .inl h
     ·exact .inr h.2
   ·rw [if_neg c]
    constructor
    ·exact .inl
    ·rintro (h | ⟨h1, h2⟩)
     ·exact h
     ·by_cases q : (goS k x a, goD k x a) ∈ acc
      ·rw [h2]; exact q
      ·exact absurd ⟨h1, q⟩ c
  rw [h]
  constructor
  ·rintro ((h | h) | ⟨s, h1, h2⟩)
   ·exact .inl h
   ·exact .inr ⟨a, List.mem_cons_self, h⟩
   ·exact .inr ⟨s, List.mem_cons_of_mem _ h1, h2⟩
  ·rintro (h | ⟨s, h1, h2⟩)
   ·exact .inl (.inl h)
   ·rcases List.mem_cons.1 h1 with rfl | h1
    ·exact .inl (.inr h2)
    ·exact .inr ⟨s, h1, h2⟩
theorem edges_mem {k : Nat → Int} {x : Sd} {e : Edge} : e ∈ edgesL k x ↔ ∃ set ∈ setsL k, 0 < goD k x set ∧ e = (goS k x set, goD k x set) := by
 unfold edgesL
 rw [edge_fold]
 simp
theorem edgeAdd_len (k : Nat → Int) (x : Sd) (acc : List Edge) (a : Int) : (edgeAdd k x acc a).length ≤ acc.length + 1 := by
 unfold edgeAdd
 split <;> simp
theorem foldEdge_len {k : Nat → Int} {x : Sd} : ∀ (l : List Int) (acc : List Edge), (l.foldl (edgeAdd k x) acc).length ≤ acc.length + l.length
 | [], acc => by simp
 | a :: l, acc => by
  rw [List.foldl_cons]
  have h1 := foldEdge_len (k := k) (x := x) l (edgeAdd k x acc a)
  have h2 := edgeAdd_len k x acc a
  rw [List.length_cons]
  omega
theorem edges_len (k : Nat → Int) (x : Sd) : (edgesL k x).length ≤ 16 := by
 have h1 := foldEdge_len (k := k) (x := x) (setsL k) []
 have h2 := setsL_len k
 unfold edgesL
 simp only [List.length_nil] at h1
 omega
theorem edge_ok {k : Nat → Int} {x : Sd} (hx : Sand k (fn4 x)) {e : Edge} (he : e ∈ edgesL k x) : Sand k (fn4 e.1) ∧ 0 < e.2 ∧ e.2 ≤ 30 := by
 obtain ⟨set, h1, h2, rfl⟩ := edges_mem.1 he
 exact ⟨sand_tup (hx.step set), h2, (hx.stepD set).2⟩
/-! bits -/
/-- does a step lead from x to a sand from which the rest of the span is measured (by the bits of the spans before)? -/
def hitB (B : Sd → Nat) (t : Nat) (e : Edge) : Bool := decide (e.2 ≤ (t : Int)) && decide (B e.1 / 2 ^ (t - e.2.toNat) % 2 = 1)
def bvN (k : Nat → Int) : Nat → Sd → Nat
 | 0, _ => 1
 | t + 1, x => bvN k t x + if (edgesL k x).any (hitB (bvN k t) (t + 1)) = true then 2 ^ (t + 1) else 0
theorem bv_lt (k : Nat → Int) : ∀ (t : Nat) (x : Sd), bvN k t x < 2 ^ (t + 1)
 | 0, x => by simp [bvN]
 | t + 1, x => by
  have := bv_lt k t x
  rw [bvN, Nat.pow_succ 2 (t + 1)]
  split <;> omega
theorem bit_add {v t u : Nat} (h : u < t) : (v + 2 ^ t) / 2 ^ u % 2 = v / 2 ^ u % 2 := by
 obtain ⟨d, rfl⟩ : ∃ d, t = u + (d + 1) := ⟨t - u - 1, by omega⟩
 rw [Nat.pow_add, Nat.mul_comm, Nat.add_mul_div_right _ _ (Nat.two_pow_pos u), Nat.pow_succ, Nat.mul_comm (2 ^ d) 2, Nat.add_mul_mod_self_left]
theorem bv_bit (k : Nat → Int) (t : Nat) (x : Sd) {u : Nat} (h : u ≤ t) : bvN k (t + 1) x / 2 ^ u % 2 = bvN k t x / 2 ^ u % 2 := by
 rw [bvN]
 split
 ·exact bit_add (by omega)
 ·rfl
theorem bv_bits (k : Nat → Int) (x : Sd) {u : Nat} : ∀ (d : Nat), bvN k (u + d) x / 2 ^ u % 2 = bvN k u x / 2 ^ u % 2
 | 0 => rfl
 | d + 1 => by rw [show u + (d + 1) = (u + d) + 1 by omega, bv_bit k (u + d) x (by omega), bv_bits k x d]
/-- the span is measured from the sand -/
def mB (k : Nat → Int) (t : Nat) (x : Sd) : Bool := decide (bvN k t x / 2 ^ t % 2 = 1)
theorem mB_zero (k : Nat → Int) (x : Sd) : mB k 0 x = true := by simp [mB, bvN]
theorem bit_mB (k : Nat → Int) (x : Sd) {u t : Nat} (h : u ≤ t) : decide (bvN k t x / 2 ^ u % 2 = 1) = mB k u x := by
 obtain ⟨d, rfl⟩ : ∃ d, t = u + d := ⟨t - u, by omega⟩
 rw [bv_bits k x d]
 rfl
theorem hit_mB {k : Nat → Int} {t : Nat} {e : Edge} (h0 : 0 < e.2) : hitB (bvN k t) (t + 1) e = (decide (e.2 ≤ (t : Int) + 1) && mB k (t + 1 - e.2.toNat) e.1) := by
 unfold hitB
 rw [bit_mB k e.1 (show t + 1 - e.2.toNat ≤ t by omega)]
 rfl
theorem mB_succ {k : Nat → Int} (t : Nat) (x : Sd) : mB k (t + 1) x = (edgesL k x).any (hitB (bvN k t) (t + 1)) := by
 have hlt := bv_lt k t x
 unfold mB
 rw [bvN]
 split
 ·rename_i c
  rw [c, Nat.add_div_right _ (Nat.two_pow_pos _), Nat.div_eq_of_lt hlt]
  rfl
 ·rename_i c
  rw [Nat.add_zero, Nat.div_eq_of_lt hlt]
  rw [show (edgesL k x).any (hitB (bvN k t) (t + 1)) = false by simpa using c]
  rfl
/-! which sands are looked at -/
abbrev keyIn (O : List (Sd × Int)) (x : Sd) : Prop := ∃ v, (x, v) ∈ O
structure SInv (k : Nat → Int) (s0 : Sd) (O : List (Sd × Int)) (l : List Sd) (i : Nat) (x : Sd) (rest : List Edge) : Prop where
 nd : Nd O
 one : ∀ p ∈ O, p.2 = 1 ∧ Sand k (fn4 p.1)
 list : ∀ s ∈ l, Sand k (fn4 s)
 start : keyIn O s0 ∨ s0 ∈ l.drop i
 next : ∀ y, keyIn O y → ∀ e ∈ edgesL k y, (y = x ∧ e ∈ rest) ∨ keyIn O e.1 ∨ e.1 ∈ l.drop i
 len : l.length + rest.length ≤ 1 + 16 * O.length
 cur : rest = [] ∨ (keyIn O x ∧ ∀ e ∈ rest, e ∈ edgesL k x)
theorem few31s {k : Nat → Int} (hk : ∀ i, i < 4 → 0 ≤ k i ∧ k i ≤ 30) {β : Type} {M : List (Sd × β)} (hn : Nd M) (hr : ∀ p ∈ M, Sand k (fn4 p.1)) : M.length ≤ 923521 := by
 have := few_nats 923521 (M.map fun e => (((e.1.1 * 31 + e.1.2.1) * 31 + e.1.2.2.1) * 31 + e.1.2.2.2).toNat) (by
  unfold List.Nodup
  rw [List.pairwise_map]
  refine List.Pairwise.imp_of_mem ?_ hn
  rintro ⟨⟨a0, a1, a2, a3⟩, t⟩ ⟨⟨b0, b1, b2, b3⟩, u⟩ hp hq hne e
  have ha := hr _ hp
  have hb := hr _ hq
  have p0 : 0 ≤ a0 ∧ a0 ≤ k 0 ∧ k 0 ≤ 30 := ⟨ha.lo 0 (by omega), ha.hi 0 (by omega), ha.top 0 (by omega)⟩
  have p1 : 0 ≤ a1 ∧ a1 ≤ k 1 ∧ k 1 ≤ 30 := ⟨ha.lo 1 (by omega), ha.hi 1 (by omega), ha.top 1 (by omega)⟩
  have p2 : 0 ≤ a2 ∧ a2 ≤ k 2 ∧ k 2 ≤ 30 := ⟨ha.lo 2 (by omega), ha.hi 2 (by omega), ha.top 2 (by omega)⟩
  have p3 : 0 ≤ a3 ∧ a3 ≤ k 3 ∧ k 3 ≤ 30 := ⟨ha.lo 3 (by omega), ha.hi 3 (by omega), ha.top 3 (by omega)⟩
  have q0 : 0 ≤ b0 ∧ b0 ≤ k 0 := ⟨hb.lo 0 (by omega), hb.hi 0 (by omega)⟩
  have q1 : 0 ≤ b1 ∧ b1 ≤ k 1 := ⟨hb.lo 1 (by omega), hb.hi 1 (by omega)⟩
  have q2 : 0 ≤ b2 ∧ b2 ≤ k 2 := ⟨hb.lo 2 (by omega), hb.hi 2 (by omega)⟩
  have q3 : 0 ≤ b3 ∧ b3 ≤ k 3 := ⟨hb.lo 3 (by omega), hb.hi 3 (by omega)⟩
  apply hne
  simp only at e
  show (a0, a1, a2, a3) = (b0, b1, b2, b3)
  have e3 : a3 = b3 := by omega
  have e2 : a2 = b2 := by omega
  have e1 : a1 = b1 := by omega
  have e0 : a0 = b0 := by omega
  rw [e0, e1, e2, e3]) (fun x hx => by
  obtain ⟨⟨⟨a0, a1, a2, a3⟩, t⟩, he, rfl⟩ := List.mem_map.1 hx
  have ha := hr _ he
  have p0 : 0 ≤ a0 ∧ a0 ≤ k 0 ∧ k 0 ≤ 30 := ⟨ha.lo 0 (by omega), ha.hi 0 (by omega), ha.top 0 (by omega)⟩
  have p1 : 0 ≤ a1 ∧ a1 ≤ k 1 ∧ k 1 ≤ 30 := ⟨ha.lo 1 (by omega), ha.hi 1 (by omega), ha.top 1 (by omega)⟩
  have p2 : 0 ≤ a2 ∧ a2 ≤ k 2 ∧ k 2 ≤ 30 := ⟨ha.lo 2 (by omega), ha.hi 2 (by omega), ha.top 2 (by omega)⟩
  have p3 : 0 ≤ a3 ∧ a3 ≤ k 3 ∧ k 3 ≤ 30 := ⟨ha.lo 3 (by omega), ha.hi 3 (by omega), ha.top 3 (by omega)⟩
  simp only
  omega)
 simpa using this
section
variable {k : Nat → Int} {s0 : Sd} {O : List (Sd × Int)} {l : List Sd} {i : Nat} {x : Sd} {rest : List Edge}
theorem SInv.begin (hs : Sand k (fn4 s0)) : SInv k s0 [] [s0] 0 s0 [] :=
 ⟨List.Pairwise.nil, fun p hp => absurd hp List.not_mem_nil, fun s h => by rw [List.mem_singleton.1 h]; exact hs, .inr List.mem_cons_self, fun y ⟨v, h⟩ => absurd h List.not_mem_nil, by simp, .inl rfl⟩
theorem drop_next {l : List Sd} {n : Nat} {a b : Sd} (h0 : l[n]? = some b) (h : a ∈ l.drop n) : a = b ∨ a ∈ l.drop (n + 1) := by
 have hl : n < l.length := by
  rcases Nat.lt_or_ge n l.length with q | q
  ·exact q
  ·rw [List.getElem?_eq_none q] at h0; cases h0
 rw [List.drop_eq_getElem_cons hl] at h
 have e : l[n] = b := by rw [List.getElem?_eq_getElem hl] at h0; exact Option.some.inj h0
 rw [e] at h
 exact List.mem_cons.1 h
theorem SInv.skip (h : SInv k s0 O l i x []) {s : Sd} (hs : l[i]? = some s) (hk : keyIn O s) : SInv k s0 O l (i + 1) x [] :=
 ⟨h.nd, h.one, h.list, by
  rcases h.start with c | c
  ·exact .inl c
  ·rcases drop_next hs c with rfl | c
   ·exact .inl hk
   ·exact .inr c, fun y hy e he => by
  rcases h.next y hy e he with ⟨_, c⟩ | c | c
  ·exact absurd c List.not_mem_nil
  ·exact .inr (.inl c)
  ·rcases drop_next hs c with c | c
   ·exact .inr (.inl (by rw [c]; exact hk))
   ·exact .inr (.inr c), h.len, .inl rfl⟩
theorem SInv.take (h : SInv k s0 O l i x []) {s : Sd} (hs : l[i]? = some s) (hg : getA O s = none) : SInv k s0 (putA O s 1) l (i + 1) s (edgesL k s) := by
 have e := putA_absent (y := (1 : Int)) hg
 have hlen : (putA O s 1).length = O.length + 1 := by rw [e]; rfl
 have hself : keyIn (putA O s 1) s := ⟨1, by rw [e]; exact List.mem_cons_self⟩
 have hold : ∀ y, keyIn O y → keyIn (putA O s 1) y := fun y ⟨v, hv⟩ => ⟨v, by rw [e]; exact List.mem_cons_of_mem _ hv⟩
 refine ⟨putA_nodup h.nd s 1, fun p hp => ?_, h.list, ?_, fun y hy e2 he => ?_, ?_, .inr ⟨hself, fun _ hh => hh⟩⟩
 ·rw [e] at hp
  rcases List.mem_cons.1 hp with rfl | hp
  ·exact ⟨rfl, h.list _ (List.mem_of_getElem? hs)⟩
  ·exact h.one p hp
 ·rcases h.start with c | c
  ·exact .inl (hold _ c)
  ·rcases drop_next hs c with rfl | c
   ·exact .inl hself
   ·exact .inr c
 ·by_cases q : y = s
  ·rw [q] at he; exact .inl ⟨q, he⟩
  ·have hy2 : keyIn O y := by
    obtain ⟨v, hv⟩ := hy
    rw [e] at hv
    rcases List.mem_cons.1 hv with hv | hv
    ·exact absurd (Prod.mk.inj hv).1 q
    ·exact ⟨v, hv⟩
   rcases h.next y hy2 e2 he with ⟨_, c⟩ | c | c
   ·exact absurd c List.not_mem_nil
   ·exact .inr (.inl (hold _ c))
   ·rcases drop_next hs c with c | c
    ·exact .inr (.inl (by rw [c]; exact hself))
    ·exact .inr (.inr c)
 ·rw [hlen]
  have h1 := h.len
  have h2 := edges_len k s
  simp only [List.length_nil] at h1
  omega
theorem SInv.drop {e : Edge} (h : SInv k s0 O l i x (e :: rest)) (hk : keyIn O e.1) : SInv k s0 O l i x rest :=
 ⟨h.nd, h.one, h.list, h.start, fun y hy e2 he => by
  rcases h.next y hy e2 he with ⟨c1, c2⟩ | c | c
  ·rcases List.mem_cons.1 c2 with c2 | c2
   ·exact .inr (.inl (by rw [c2]; exact hk))
   ·exact .inl ⟨c1, c2⟩
  ·exact .inr (.inl c)
  ·exact .inr (.inr c), by have := h.len; simp only [List.length_cons] at this; omega, by
  rcases h.cur with c | c
  ·cases c
  ·exact .inr ⟨c.1, fun e2 he => c.2 e2 (List.mem_cons_of_mem _ he)⟩⟩
theorem SInv.push {e : Edge} (h : SInv k s0 O l i x (e :: rest)) (hi : i ≤ l.length) : SInv k s0 O (l ++ [e.1]) i x rest := by
 obtain ⟨c1, c2⟩ := h.cur.resolve_left (by simp)
 obtain ⟨v, hv⟩ := c1
 have hS := (h.one _ hv).2
 have hmono : ∀ y, y ∈ l.drop i → y ∈ (l ++ [e.1]).drop i := fun y hy => by
  rw [List.drop_append_of_le_length hi]
  exact List.mem_append_left _ hy
 refine ⟨h.nd, h.one, fun s hs => ?_, ?_, fun y hy e2 he => ?_, ?_, .inr ⟨⟨v, hv⟩, fun e2 he => c2 e2 (List.mem_cons_of_mem _ he)⟩⟩
 ·rcases List.mem_append.1 hs with hs | hs
  ·exact h.list s hs
  ·rw [List.mem_singleton.1 hs]
   exact (edge_ok hS (c2 e List.mem_cons_self)).1
 ·rcases h.start with c | c
  ·exact .inl c
  ·exact .inr (hmono _ c)
 ·rcases h.next y hy e2 he with ⟨d1, d2⟩ | c | c
  ·rcases List.mem_cons.1 d2 with d2 | d2
   ·refine .inr (.inr ?_)
    rw [d2, List.drop_append_of_le_length hi]
    exact List.mem_append_right _ List.mem_cons_self
   ·exact .inl ⟨d1, d2⟩
  ·exact .inr (.inl c)
  ·exact .inr (.inr (hmono _ c))
 ·have := h.len
  simp only [List.length_cons] at this
  rw [List.length_append, List.length_cons, List.length_nil]
  omega
theorem SInv.any (h : SInv k s0 O l i x []) (y : Sd) : SInv k s0 O l i y [] :=
 ⟨h.nd, h.one, h.list, h.start, fun z hz e he => (h.next z hz e he).imp (fun c => absurd c.2 List.not_mem_nil) (fun c => c), h.len, .inl rfl⟩
/-- the sands that are looked at: closed under steps -/
structure SDone (k : Nat → Int) (s0 : Sd) (O : List (Sd × Int)) : Prop where
 nd : Nd O
 sand : ∀ p ∈ O, Sand k (fn4 p.1)
 start : keyIn O s0
 next : ∀ y, keyIn O y → ∀ e ∈ edgesL k y, keyIn O e.1
theorem SInv.finish (h : SInv k s0 O l i x []) (hi : l.length ≤ i) : SDone k s0 O := by
 have hd : l.drop i = [] := List.drop_eq_nil_of_le hi
 refine ⟨h.nd, fun p hp => (h.one p hp).2, ?_, fun y hy e he => ?_⟩
 ·rcases h.start with c | c
  ·exact c
  ·rw [hd] at c; exact absurd c List.not_mem_nil
 ·rcases h.next y hy e he with ⟨_, c⟩ | c | c
  ·exact absurd c List.not_mem_nil
  ·exact c
  ·rw [hd] at c; exact absurd c List.not_mem_nil
end
end Go.Proofs.Ytlhodfjdmafapaa
end
section
namespace Go.Proofs.Ytlhodfjdmafapaa
open Go.RowKit Go.Maps Go.Proofs.YtlhodfjdmafapaaW.PrintWords Go.Proofs.YtlhodfjdmafapaaW.PrintLast
set_option linter.unusedVariables false
set_option linter.unusedSimpArgs false
def kE : Kd Edge := Kd.pair k4 (Kd.int .i64)
theorem flatE : Flat kE := fun _ _ _ _ _ _ h => h
theorem kE_open {w : World} {x : Edge} {cs : List Value} (h : kE.K w x cs) : cs = [.int .i64 x.1.1, .int .i64 x.1.2.1, .int .i64 x.1.2.2.1, .int .i64 x.1.2.2.2, .int .i64 x.2] := by
 obtain ⟨_, _, rfl, h0, rfl⟩ := h
 obtain rfl := k4_open h0
 exact rfl
theorem kE_mkM (w : World) (base : Nat) (ok : Nat → Prop) (x : Edge) : kE.M w base ok x [.int .i64 x.1.1, .int .i64 x.1.2.1, .int .i64 x.1.2.2.1, .int .i64 x.1.2.2.2, .int .i64 x.2] := ⟨[.int .i64 x.1.1, .int .i64 x.1.2.1, .int .i64 x.1.2.2.1, .int .i64 x.1.2.2.2], [.int .i64 x.2], rfl, k4_mkM w base ok x.1, rfl⟩
theorem at_kE {w : World} {A : Option Addr} {n : Nat} {xs : List Edge} (h : Kd.C kE w A n xs) (i : Nat) (s : Edge) (hs : xs[i]? = some s) : ∃ ad, A = some ad ∧ w.cell? (ad.add (i * 5)) = some (.int .i64 s.1.1) ∧ w.cell? ⟨(ad.add (i * 5)).block, (ad.add (i * 5)).off + 1, none⟩ = some (.int .i64 s.1.2.1) ∧ w.cell? ⟨(ad.add (i * 5)).block, (ad.add (i * 5)).off + 2, none⟩ = some (.int .i64 s.1.2.2.1) ∧ w.cell? ⟨(ad.add (i * 5)).block, (ad.add (i * 5)).off + 3, none⟩ = some (.int .i64 s.1.2.2.2) ∧ w.cell? ⟨(ad.add (i * 5)).block, (ad.add (i * 5)).off + 4, none⟩ = some (.int .i64 s.2) := by
 have hl : i < xs.length := by
  rcases Nat.lt_or_ge i xs.length with q | q
  ·exact q
  ·rw [List.getElem?_eq_none q] at hs; cases hs
 obtain ⟨ad, c, e, _, hK, hc0⟩ := Kd.C_get h ((0, 0, 0, 0), 0) (i : Int) (by omega) (by have := Kd.C_len h; omega)
 have hc : ∀ j u, c[j]? = some u → w.cell? (ad.add (i * 5 + j)) = some u := hc0
 rw [show xs.getD (i : Int).toNat ((0, 0, 0, 0), 0) = s by rw [Int.toNat_natCast, List.getD_eq_getElem?_getD, hs]; rfl] at hK
 obtain rfl := kE_open hK
 exact ⟨ad, e, hc 0 _ rfl, by rw [← add_field _ _ 1 (by omega)]; exact hc 1 _ rfl, by rw [← add_field _ _ 2 (by omega)]; exact hc 2 _ rfl, by rw [← add_field _ _ 3 (by omega)]; exact hc 3 _ rfl, by rw [← add_field _ _ 4 (by omega)]; exact hc 4 _ rfl⟩
set_option maxRecDepth 100000 in
/-- arrays of four ints are told apart -/
theorem eq_arr4 {x y : Sd} (hx : good4 x) (hy : good4 y) (w : World) : (Op.equalIn 9999 22 (.agg #[.int .i64 x.1, .int .i64 x.2.1, .int .i64 x.2.2.1, .int .i64 x.2.2.2]) (.agg #[.int .i64 y.1, .int .i64 y.2.1, .int .i64 y.2.2.1, .int .i64 y.2.2.2])).run Try.prog w = .ok (decide (x = y)) w := by
 have key : ∀ z : Sd, good4 z → Program.keyLits Try.prog 2 22 [.int .i64 z.1, .int .i64 z.2.1, .int .i64 z.2.2.1, .int .i64 z.2.2.2] = some (lits4 z) := fun z h => keyLits4 arr4 Try.underlying3 0 (wf30 h.1) (wf30 h.2.1) (wf30 h.2.2.1) (wf30 h.2.2.2)
 have fm : ∀ z : Sd, Value.formed Try.prog 22 (.agg #[.int .i64 z.1, .int .i64 z.2.1, .int .i64 z.2.2.1, .int .i64 z.2.2.2]) = true := fun z => by simp [Value.formed, Try.underlying22, arr4.size]
 obtain ⟨r, h1, h2⟩ := run_equalIn_deep (P := Try.prog) 9997 2 22 (by kernel_rfl) w 2 2 _ _ _ _ (fm x) (fm y) (key x hx) (key y hy)
 have hl : (lits4 x = lits4 y) ↔ x = y := by
  obtain ⟨x0, x1, x2, x3⟩ := x
  obtain ⟨y0, y1, y2, y3⟩ := y
  simp [lits4]
 rw [hl] at h2
 have hr : r = decide (x = y) := by
  cases r
  ·exact (decide_eq_false (fun e => by simpa using h2.2 e)).symm
  ·exact (decide_eq_true (h2.1 rfl)).symm
 rw [← hr]
 exact h1
def goodE (e : Edge) : Prop := good4 e.1
set_option maxHeartbeats 1600000 in
theorem index_any (A : Option Addr) (c : Nat) (es : List Edge) (e : Edge) (he : goodE e) (hes : ∀ x ∈ es, goodE x) (hlen : es.length ≤ 16) (w : World) (hC : Kd.C kE w A es.length es) (hc : es.length ≤ c) :
  Calls Try.prog 117 #[.slice A es.length c, .agg #[.int .i64 e.1.1, .int .i64 e.1.2.1, .int .i64 e.1.2.2.1, .int .i64 e.1.2.2.2, .int .i64 e.2]] w fun en w' => (∃ i : Int, en = .returned (.int .i64 i) ∧ (0 ≤ i ↔ e ∈ es) ∧ -1 ≤ i ∧ i ≤ 16) ∧ Below w.heap.size w w' := by
 have HC := Aside0.mk hC
 have HES := Aside0.mk hes
 have HE := Aside0.mk he
 obtain ⟨⟨e0, e1, e2, e3⟩, e4⟩ := e
 clear hC hes he
 go_enter Try.func117, Try.ntmps117
 go_wp2_with fail
 obtain ⟨w0, hw0⟩ : ∃ w0, w0 = w.alloc (.cells #[.int .i64 e0, .int .i64 e1, .int .i64 e2, .int .i64 e3, .int .i64 e4] 109 (0, 0)) := ⟨_, rfl⟩
 have HK := Aside0.mk (show w0.heap[w.heap.size]? = some (.cells #[.int .i64 e0, .int .i64 e1, .int .i64 e2, .int .i64 e3, .int .i64 e4] 109 (0, 0)) from by rw [hw0]; exact heap_alloc_new w _)
 have HB0 := Aside0.mk (show Below w.heap.size w w0 from by rw [hw0]; exact below_alloc (Below.refl _ _) _)
 have HC0 := Aside0.mk (Kd.C_below HC.out HB0.out)
 rw [← hw0]
 clear hw0
 go_loopw [8] (fun v8 wr => ∃ i : Nat, v8 = .int .i64 i ∧ Aside0 (i ≤ es.length) ∧ Aside0 (∀ j : Nat, j < i → es[j]? ≠ some ((e0, e1, e2, e3), e4)) ∧ Aside0 (Below w0.heap.size w0 wr)) (fun v8 _ => es.length - (intOf v8).toNat)
 case atStart => exact ⟨0, rfl, ⟨Nat.zero_le _⟩, ⟨fun j hj => absurd hj (Nat.not_lt_zero _)⟩, ⟨Below.refl _ _⟩⟩
 case round =>
  obtain ⟨i, rfl, HI, HN, HB⟩ := hrel
  obtain ⟨wo, rfl⟩ : ∃ wo : World, wo = wr := ⟨_, rfl⟩
  have hil := HI.out
  by_cases ci : i < es.length
  ·have c0 : decide (i < es.length) = true := decide_eq_true ci
   have c1 : decide ((i : Int) < (es.length : Int)) = true := decide_eq_true (by omega)
   obtain ⟨⟨⟨x0, x1, x2, x3⟩, x4⟩, hx⟩ : ∃ x, es[i]? = some x := ⟨_, List.getElem?_eq_getElem ci⟩
   obtain ⟨ad, rfl, h0, h1, h2, h3, h4⟩ := at_kE (Kd.C_below HC0.out HB.out) i _ hx
   have HX := Aside0.mk hx
   have hK := blk_below HK.out HB.out
   have q0 : wo.cell? ⟨w.heap.size, 0, none⟩ = some (.int .i64 e0) := (blk_cell hK 0).trans rfl
   have q1 : wo.cell? ⟨w.heap.size, 1, none⟩ = some (.int .i64 e1) := (blk_cell hK 1).trans rfl
   have q2 : wo.cell? ⟨w.heap.size, 2, none⟩ = some (.int .i64 e2) := (blk_cell hK 2).trans rfl
   have q3 : wo.cell? ⟨w.heap.size, 3, none⟩ = some (.int .i64 e3) := (blk_cell hK 3).trans rfl
   have q4 : wo.cell? ⟨w.heap.size, 4, none⟩ = some (.int .i64 e4) := (blk_cell hK 4).trans rfl
   have harr := eq_arr4 (x := (e0, e1, e2, e3)) (y := (x0, x1, x2, x3)) HE.out (HES.out _ (List.mem_of_getElem? hx))
   simp only [] at harr
   have p0 : (0 : Int) ≤ (i : Int) := by omega
   have p1 : (i : Int) < (es.length : Int) := by omega
   clear hx hK
   by_cases d1 : ((e0, e1, e2, e3) : Sd) = (x0, x1, x2, x3)
   ·rw [decide_eq_true d1] at harr
    have HD1 := Aside0.mk d1
    clear d1
    by_cases d2 : e4 = x4
    ·have d3 : (e4 == x4) = true := by simp [d2]
     have HD2 := Aside0.mk d2
     clear d2
     go_wp2_with fail
     go_quiet (fail)
     go_wp2_with fail
     go_ret
     refine ⟨⟨_, rfl, ⟨fun _ => ?_, fun _ => by omega⟩, by omega, by omega⟩, below_chain HB0.out (pw_below_drewN HB.out _)⟩
     have := List.mem_of_getElem? HX.out
     rw [← HD1.out, ← HD2.out] at this
     exact this
    ·have d3 : (e4 == x4) = false := by simp [d2]
     have HD2 := Aside0.mk d2
     clear d2
     go_wp2_with fail
     go_quiet (fail)
     go_wp2_with fail
     exact ⟨⟨i + 1, by go_num, ⟨by omega⟩, ⟨fun j hj => by
      by_cases q : j = i
      ·rw [q, HX.out]; intro e; exact HD2.out (Prod.mk.inj (Option.some.inj e)).2.symm
      ·exact HN.out j (by omega)⟩, ⟨pw_below_drewN HB.out _⟩⟩, by simp only [intOf]; omega⟩
   ·rw [decide_eq_false d1] at harr
    have HD1 := Aside0.mk d1
    clear d1
    go_wp2_with fail
    go_quiet (fail)
    go_wp2_with fail
    exact ⟨⟨i + 1, by go_num, ⟨by omega⟩, ⟨fun j hj => by
      by_cases q : j = i
      ·rw [q, HX.out]; intro e; exact HD1.out (Prod.mk.inj (Option.some.inj e)).1.symm
      ·exact HN.out j (by omega)⟩, ⟨pw_below_drewN HB.out _⟩⟩, by simp only [intOf]; omega⟩
  ·have c0 : decide (i < es.length) = false := decide_eq_false ci
   have c1 : decide ((i : Int) < (es.length : Int)) = false := decide_eq_false (by omega)
   go_wp2_with fail
   go_ret
   refine ⟨⟨_, rfl, ⟨fun h => by omega, fun h => ?_⟩, by omega, by omega⟩, below_chain HB0.out HB.out⟩
   obtain ⟨j, hj⟩ := List.mem_iff_getElem?.1 h
   have hjl : j < es.length := by
    rcases Nat.lt_or_ge j es.length with q | q
    ·exact q
    ·rw [List.getElem?_eq_none q] at hj; cases hj
   exact absurd hj (HN.out j (by omega))
set_option maxHeartbeats 1600000 in
theorem contains_any (A : Option Addr) (c : Nat) (es : List Edge) (e : Edge) (b : Bool) (hb : decide (e ∈ es) = b) (he : goodE e) (hes : ∀ x ∈ es, goodE x) (hlen : es.length ≤ 16) (w : World) (hC : Kd.C kE w A es.length es) (hc : es.length ≤ c) :
  Calls Try.prog 102 #[.slice A es.length c, .agg #[.int .i64 e.1.1, .int .i64 e.1.2.1, .int .i64 e.1.2.2.1, .int .i64 e.1.2.2.2, .int .i64 e.2]] w fun en w' => en = .returned (.bool b) ∧ Below w.heap.size w w' := by
 have HI := fun W (hW : Below w.heap.size w W) => index_any A c es e he hes hlen W (Kd.C_below hC hW) hc
 obtain ⟨⟨e0, e1, e2, e3⟩, e4⟩ := e
 have HB := Aside0.mk hb
 clear hb hC he hes
 go_enter Try.func102, Try.ntmps102
 go_wp2_with fail
 refine (HI _ (below_alloc (Below.refl _ _) _)).mono ?_
 rintro en w1 ⟨⟨i, rfl, h1, h2, h3⟩, hbl⟩
 have HBL := Aside0.mk (below_chain (below_alloc (Below.refl w.heap.size w) _) hbl)
 have HV := Aside0.mk (show decide (0 ≤ i) = b from by rw [← HB.out]; exact decide_eq_decide.2 h1)
 clear h1 hbl HI
 go_wp2_with fail
 go_ret
 exact ⟨ret_bool HV.out, HBL.out⟩
end Go.Proofs.Ytlhodfjdmafapaa
end
section
namespace Go.Proofs.Ytlhodfjdmafapaa.QIm
open Go.RowKit Go.Proofs.YtlhodfjdmafapaaW.PrintWords Go.Proofs.YtlhodfjdmafapaaW.PrintLast Go.Proofs.YtlhodfjdmafapaaW.PrintMore
attribute [local go_sem] max2_int min2_int max_two min_two max_three min_three max_four min_four   -- for this text's walks alone
set_option linter.unusedVariables false
set_option linter.unusedSimpArgs false
def errW : Option Int → Value
 | none => .nilIface
 | some c => .iface 0 (.int .i64 c)
theorem errW_none : errW none = .nilIface := rfl
theorem errW_some (c : Int) : errW (some c) = .iface 0 (.int .i64 c) := rfl
theorem info3 : (Try.prog.info? 3).map (fun i => (i.zero, i.size, i.bytes)) = some (some (.int .i64 0), 1, 8) := by kernel_rfl
-- the values' own types
/-! #### struct type 22 -/
/-! #### struct type 27 -/
end Go.Proofs.Ytlhodfjdmafapaa.QIm
end
section
namespace Go.Proofs.Ytlhodfjdmafapaa.QIm
open Go.RowKit Go.Proofs.YtlhodfjdmafapaaW.PrintWords Go.Proofs.YtlhodfjdmafapaaW.PrintLast Go.Proofs.YtlhodfjdmafapaaW.PrintMore
attribute [local go_sem] max2_int min2_int max_two min_two max_three min_three max_four min_four   -- for this text's walks alone
set_option linter.unusedVariables false
set_option linter.unusedSimpArgs false
/-! ### impl_Kit_sets: function 65 -/
def impl_Kit_sets.l0 : Nat → List Int → Int → Int → Int → Int → Int → Option (List Int)
 | 0, _, _, _, _, _, _ => none
 | k + 1, x3, x6, x102000, x102001, x102002, x102003 => if x6 < 16 then ((xIsSet.f x102000 x102001 x102002 x102003 x6).bind fun t105 => (if t105 = true then (if x3.length < 17592186044416 then (impl_Kit_sets.l0 k (x3 ++ [x6]) (wrap64 (x6 + 1)) x102000 x102001 x102002 x102003) else (none)) else (impl_Kit_sets.l0 k x3 (wrap64 (x6 + 1)) x102000 x102001 x102002 x102003))) else (some x3)
def impl_Kit_sets.f (k : Nat) (a0_0 : Int) (a0_1 : Int) (a0_2 : Int) (a0_3 : Int) : Option (List Int) := impl_Kit_sets.l0 k (([] : List Int)) 0 a0_0 a0_1 a0_2 a0_3
theorem impl_Kit_sets.mono_l : ∀ k, (∀ y0 y1 y2 y3 y4 y5, LeO (impl_Kit_sets.l0 k y0 y1 y2 y3 y4 y5) (impl_Kit_sets.l0 (k + 1) y0 y1 y2 y3 y4 y5))
 | 0 => fun _ _ _ _ _ _ r h => by simp [impl_Kit_sets.l0] at h
 | k + 1 => by
  have ih0 := impl_Kit_sets.mono_l k
  ·intro y0 y1 y2 y3 y4 y5
   unfold impl_Kit_sets.l0
   repeat' first
   | (with_reducible exact ih0 _ _ _ _ _ _)
   | (with_reducible exact LeO.refl _)
   | (with_reducible exact LeO.none _)
   | (with_reducible refine LeO.ite ?_ ?_)
   | (with_reducible refine LeO.bind ?_ (fun _ => ?_))
   | exact ih0 _ _ _ _ _ _
   | exact LeO.none _
   | refine LeO.ite ?_ ?_
   | refine LeO.bind ?_ (fun _ => ?_)
theorem impl_Kit_sets.mono : ∀ a0 a1 a2 a3 k, LeO (impl_Kit_sets.f k a0 a1 a2 a3) (impl_Kit_sets.f (k + 1) a0 a1 a2 a3) := by
 intro a0 a1 a2 a3 k
 have ih0 := impl_Kit_sets.mono_l k
 unfold impl_Kit_sets.f
 repeat' first
   | (with_reducible exact ih0 _ _ _ _ _ _)
   | (with_reducible exact LeO.refl _)
   | (with_reducible exact LeO.none _)
   | (with_reducible refine LeO.ite ?_ ?_)
   | (with_reducible refine LeO.bind ?_ (fun _ => ?_))
   | exact ih0 _ _ _ _ _ _
   | exact LeO.none _
   | refine LeO.ite ?_ ?_
   | refine LeO.bind ?_ (fun _ => ?_)
set_option maxHeartbeats 8000000 in
set_option maxRecDepth 100000 in
theorem impl_Kit_sets.calls (k : Nat) (a0_0 : Int) (a0_1 : Int) (a0_2 : Int) (a0_3 : Int) (r : List Int) (w : World) (h : impl_Kit_sets.f k a0_0 a0_1 a0_2 a0_3 = some r) :
  Calls Try.prog 65 #[.agg #[.int .i64 a0_0, .int .i64 a0_1, .int .i64 a0_2, .int .i64 a0_3]] w fun e w' => ∃ v0_ : Value, e = .returned (v0_) ∧ Kd.R (Kd.int .i64) 3 w' w.heap.size (fun _ => True) v0_ r ∧ Below w.heap.size w w' := by
 have hu27 := Try.underlying27
 have HB := Aside0.mk (Below.refl w.heap.size w)
 have H : (impl_Kit_sets.l0 k (([] : List Int)) 0 a0_0 a0_1 a0_2 a0_3) = some r := h
 clear h
 obtain ⟨y102, hy102⟩ : ∃ y_ : List Int, y_ = (([] : List Int)) := ⟨_, rfl⟩
 replace H : (impl_Kit_sets.l0 k y102 0 a0_0 a0_1 a0_2 a0_3) = some r := by first | (rw [hy102]; with_reducible exact H) | (have H2_ := (Option.bind_some _ _).symm.trans H; rw [hy102]; with_reducible exact H2_) | (have H2_ := (Option.bind_some _ _).symm.trans H; with_reducible exact H2_) | with_reducible exact H | (rw [hy102]; exact H) | exact H
 have Ny102 := Aside0.mk hy102
 clear hy102
 have H' := Aside0.mk H
 clear H
 go_enter Try.func65, Try.ntmps65
 go_wp2_with (first | ((with_reducible refine gate_dst (N := 1) rfl ?_); refine box_event ?hg (N := 1) ?hd (cs := #[.int .i64 a0_0, .int .i64 a0_1, .int .i64 a0_2, .int .i64 a0_3]) (t := 27) ?hr ?_; (case hd => rfl); (case hg => rfl); (case hr => first | (go_simp; done) | (go_simp; rfl)); intro gb101 hg w2 hbox hb; have n0_ := Aside0.mk (below_step (by repeat (first | (with_reducible first | exact HB.out | apply below_alloc | apply pw_below_drewN | apply below_drew1) | exact HB.out)) hb); have n1_ := Aside0.mk (hbox); have n2_ := Aside0.mk ((by rw [hg]; exact (below_size (by repeat (first | (with_reducible first | exact HB.out | apply below_alloc | apply pw_below_drewN | apply below_drew1) | exact HB.out))) : w.heap.size ≤ gb101)); have n3_ := Aside0.mk ((by rw [hg]; exact (below_size (by repeat (first | (with_reducible first | exact HB.out | apply below_alloc | apply pw_below_drewN | apply below_drew1) | exact HB.out))) : w.heap.size ≤ gb101)); clear HB; have HB := n0_; have BK101 := n1_; have GW101 := n2_; have GE101 := n3_; clear n0_ n1_ n2_ n3_; clear hb hbox hg) | ((with_reducible refine gate_dst (N := 5) rfl ?_); refine Kd.R_lit (Kd.int .i64) _ 3 ?hg (N := 5) ?hd (xs := ([] : List Int)) (inner := []) (ok := fun _ => True) (okp := fun _ => True) ?hr ?hp (fun _ hk => hk) trivial (Below.refl _ _) (Nat.le_refl _) (by simp) ?_; (case hd => rfl); (case hg => rfl); (case hr => first | (go_simp; done) | (go_simp; rfl)); (case hp => exact (Reps.none _ _)); intro v103 w3 ho4 hb hg_ hnew_; clear hg_ hnew_; (first | rw [← Ny102.out] at ho4 | (simp only [Int.reduceToNat] at ho4; rw [← Ny102.out] at ho4)); have n0_ := Aside0.mk (Kd.R_lower ho4 (below_size (by repeat (first | (with_reducible first | exact HB.out | apply below_alloc | apply pw_below_drewN | apply below_drew1 | refine below_set ?_ GE101.out) | exact HB.out)))); have n1_ := Aside0.mk (blk_below (g := gb101) (o := .cells #[.int .i64 a0_0, .int .i64 a0_1, .int .i64 a0_2, .int .i64 a0_3] 27 (0, 0)) (by (with_reducible repeat (first | refine blk_drewN ?_ _ | refine blk_drew ?_ | refine blk_alloc ?_ _)); exact BK101.out) hb); have n2_ := Aside0.mk (below_step (by repeat (first | (with_reducible first | exact HB.out | apply below_alloc | apply pw_below_drewN | apply below_drew1 | refine below_set ?_ GE101.out) | exact HB.out)) hb); clear BK101; clear HB; have HO104 := n0_; have BK101 := n1_; have HB := n2_; clear n0_ n1_ n2_; clear hb ho4))
 go_loopg [3, 6] k (fun kq v3 v6 w' => ∃ (x3_1 : List Int) (x6_1 : Int), v6 = .int .i64 x6_1 ∧ Aside0 (impl_Kit_sets.l0 kq x3_1 x6_1 a0_0 a0_1 a0_2 a0_3 = some r) ∧ Aside0 (kq ≤ k) ∧ Aside0 (Kd.R (Kd.int .i64) 3 w' w.heap.size (fun _ => True) v3 x3_1) ∧ Aside0 (w'.heap[gb101]? = some (.cells #[.int .i64 a0_0, .int .i64 a0_1, .int .i64 a0_2, .int .i64 a0_3] 27 (0, 0))) ∧ Aside0 (Below w.heap.size w w'))
 case atStart => exact ⟨(y102), (0), (by first | rfl | (simp; done) | (simp [*]; done)), H', ⟨Nat.le_refl _⟩, ⟨by (with_reducible repeat (first | apply Kd.R_alloc | apply Kd.R_drewN | apply Kd.R_drew)); exact HO104.out⟩, ⟨by (with_reducible repeat (first | refine blk_drewN ?_ _ | refine blk_drew ?_ | refine blk_alloc ?_ _)); exact BK101.out⟩, ⟨by repeat (first | (with_reducible first | exact HB.out | apply below_alloc | apply pw_below_drewN | apply below_drew1 | refine below_set ?_ GE101.out) | exact HB.out)⟩⟩
 case round =>
  clear H'
  try clear p2
  obtain ⟨x3_1, x6_1, rfl, HA, HK1, HO_3, BK101, HB⟩ := hrel
  cases gk with
  | zero => exact absurd HA.out (by simp [impl_Kit_sets.l0])
  | succ k1 =>
   have H := HA.out
   clear HA
   simp only [impl_Kit_sets.l0] at H
   by_cases c5 : x6_1 < 16
   ·rw [if_pos c5] at H
    have c5b0 : decide (x6_1 < 16) = true := decide_eq_true c5
    clear c5
    replace H := Option.bind_eq_some_iff.mp H
    obtain ⟨t105, A60, H⟩ := H
    replace H : (if t105 = true then (if x3_1.length < 17592186044416 then (impl_Kit_sets.l0 k1 (x3_1 ++ [x6_1]) (wrap64 (x6_1 + 1)) a0_0 a0_1 a0_2 a0_3) else (none)) else (impl_Kit_sets.l0 k1 x3_1 (wrap64 (x6_1 + 1)) a0_0 a0_1 a0_2 a0_3)) = some r := H
    have A6 := Aside0.mk A60
    clear A60
    by_cases c7 : t105 = true
    ·subst c7
     have H1 : (if x3_1.length < 17592186044416 then (impl_Kit_sets.l0 k1 (x3_1 ++ [x6_1]) (wrap64 (x6_1 + 1)) a0_0 a0_1 a0_2 a0_3) else (none)) = some r := by rw [if_pos rfl] at H; exact H
     clear H
     have H := H1
     clear H1
     by_cases c8 : x3_1.length < 17592186044416
     ·rw [if_pos c8] at H
      have LMc8 := Aside0.mk c8
      clear c8
      obtain ⟨y106, hy106⟩ : ∃ y_ : List Int, y_ = (x3_1 ++ [x6_1]) := ⟨_, rfl⟩
      replace H : (impl_Kit_sets.l0 k1 y106 (wrap64 (x6_1 + 1)) a0_0 a0_1 a0_2 a0_3) = some r := by first | (rw [hy106]; with_reducible exact H) | (have H2_ := (Option.bind_some _ _).symm.trans H; rw [hy106]; with_reducible exact H2_) | (have H2_ := (Option.bind_some _ _).symm.trans H; with_reducible exact H2_) | with_reducible exact H | (rw [hy106]; exact H) | exact H
      have Ny106 := Aside0.mk hy106
      clear hy106
      have H' := Aside0.mk H
      clear H
      have hcz9_0 : wr.cell? ⟨gb101, 0, none⟩ = some (.int .i64 a0_0) := (blk_cell BK101.out 0).trans rfl
      have hcz9_1 : wr.cell? ⟨gb101, 1, none⟩ = some (.int .i64 a0_1) := (blk_cell BK101.out 1).trans rfl
      have hcz9_2 : wr.cell? ⟨gb101, 2, none⟩ = some (.int .i64 a0_2) := (blk_cell BK101.out 2).trans rfl
      have hcz9_3 : wr.cell? ⟨gb101, 3, none⟩ = some (.int .i64 a0_3) := (blk_cell BK101.out 3).trans rfl
      have hfz9_0 := blk_frozen BK101.out 0
      have hfz9_1 := blk_frozen BK101.out 1
      have hfz9_2 := blk_frozen BK101.out 2
      have hfz9_3 := blk_frozen BK101.out 3
      go_wp2_with (first | ((with_reducible refine gate_callee (f := 90) rfl ?_); refine goesL_ (some 11) rfl rfl Try.func90 (by kernel_rfl) rfl #[.agg #[.int .i64 a0_0, .int .i64 a0_1, .int .i64 a0_2, .int .i64 a0_3], .int .i64 x6_1] rfl (by (try simp only [List.map_toArray, List.map_cons, List.map_nil]); first | done | rfl | (simp only [List.length_drop, List.length_take]; rfl)) ?_; (with_reducible refine (xIsSet.calls a0_0 a0_1 a0_2 a0_3 x6_1 true _ A6.out).mono ?_); rintro e w10 ⟨rfl, hb⟩; refine ⟨_, rfl, ?_⟩; have n0_ := Aside0.mk (Kd.R_below (by (with_reducible repeat (first | apply Kd.R_alloc | apply Kd.R_drewN | apply Kd.R_drew)); exact HO_3.out) hb); have n1_ := Aside0.mk (blk_below (g := gb101) (o := .cells #[.int .i64 a0_0, .int .i64 a0_1, .int .i64 a0_2, .int .i64 a0_3] 27 (0, 0)) (by (with_reducible repeat (first | refine blk_drewN ?_ _ | refine blk_drew ?_ | refine blk_alloc ?_ _)); exact BK101.out) hb); have n2_ := Aside0.mk (below_step (by repeat (first | (with_reducible first | exact HB.out | apply below_alloc | apply pw_below_drewN | apply below_drew1 | refine below_set ?_ GE101.out) | exact HB.out)) hb); clear HO_3; clear BK101; clear HB; have HO_3 := n0_; have BK101 := n1_; have HB := n2_; clear n0_ n1_ n2_; (try clear hb); (try clear hb2); (try clear hk); (try clear hi)) | ((with_reducible refine gate_builtin (b := .append) (xs := #[.tmp 12, .tmp 14]) rfl ?_); at_builtin; refine Kd.R_append (Kd.int .i64) (w0 := w) w.heap.size rfl (.tmp 12) (.tmp 14) 38 3 (.int .i64 0) 8 rfl Try.underlying38 info3 rfl (by decide) (by omega) u3 x3_1 x6_1 [.int .i64 x6_1] (fun _ => True) (fun _ => False) rfl rfl ?aP (fun _ hk => hk.elim) ?aF ?aO ?aB ?aS ?aL ?_; (case aP => exact rfl); (case aB => exact (by repeat (first | (with_reducible first | exact HB.out | apply below_alloc | apply pw_below_drewN | apply below_drew1 | refine below_set ?_ GE101.out) | exact HB.out))); (case aF => exact (fun _ _ => trivial)); (case aO => exact (by (with_reducible repeat (first | apply Kd.R_alloc | apply Kd.R_drewN | apply Kd.R_drew)); exact HO_3.out)); (case aS => exact (below_size (by repeat (first | (with_reducible first | exact HB.out | apply below_alloc | apply pw_below_drewN | apply below_drew1 | refine below_set ?_ GE101.out) | exact HB.out)))); (case aL => have := LMc8.out; omega); intro v107 w11 ho hb hg hat; rw [← Ny106.out] at ho; have n0_ := Aside0.mk (blk_grown (g := gb101) (o := .cells #[.int .i64 a0_0, .int .i64 a0_1, .int .i64 a0_2, .int .i64 a0_3] 27 (0, 0)) (by (with_reducible repeat (first | refine blk_drewN ?_ _ | refine blk_drew ?_ | refine blk_alloc ?_ _)); exact BK101.out) hg (Kd.R_ne HO_3.out BK101.out (by decide))); have n1_ := Aside0.mk (hb); have n2_ := Aside0.mk (ho); clear BK101; clear HB; clear HO_3; have BK101 := n0_; have HB := n1_; have HO108 := n2_; clear n0_ n1_ n2_; clear ho hb hg hat))
      go_roundg k1
      case measure => have := HK1.out; omega
      case rel => exact ⟨(y106), (wrap64 (x6_1 + 1)), (by first | rfl | (simp; done) | (simp [*]; done)), H', ⟨by have := HK1.out; omega⟩, ⟨by (with_reducible repeat (first | apply Kd.R_alloc | apply Kd.R_drewN | apply Kd.R_drew)); exact HO108.out⟩, ⟨by (with_reducible repeat (first | refine blk_drewN ?_ _ | refine blk_drew ?_ | refine blk_alloc ?_ _)); exact BK101.out⟩, ⟨by repeat (first | (with_reducible first | exact HB.out | apply below_alloc | apply pw_below_drewN | apply below_drew1 | refine below_set ?_ GE101.out) | exact HB.out)⟩⟩
     ·rw [if_neg c8] at H
      exact absurd H (by simp)
    ·replace c7 := Bool.eq_false_iff.mpr c7
     subst c7
     have H1 : (impl_Kit_sets.l0 k1 x3_1 (wrap64 (x6_1 + 1)) a0_0 a0_1 a0_2 a0_3) = some r := by rw [if_neg (show ¬ (false = true) by decide)] at H; exact H
     clear H
     have H := H1
     clear H1
     have H' := Aside0.mk H
     clear H
     have hcz12_0 : wr.cell? ⟨gb101, 0, none⟩ = some (.int .i64 a0_0) := (blk_cell BK101.out 0).trans rfl
     have hcz12_1 : wr.cell? ⟨gb101, 1, none⟩ = some (.int .i64 a0_1) := (blk_cell BK101.out 1).trans rfl
     have hcz12_2 : wr.cell? ⟨gb101, 2, none⟩ = some (.int .i64 a0_2) := (blk_cell BK101.out 2).trans rfl
     have hcz12_3 : wr.cell? ⟨gb101, 3, none⟩ = some (.int .i64 a0_3) := (blk_cell BK101.out 3).trans rfl
     have hfz12_0 := blk_frozen BK101.out 0
     have hfz12_1 := blk_frozen BK101.out 1
     have hfz12_2 := blk_frozen BK101.out 2
     have hfz12_3 := blk_frozen BK101.out 3
     go_wp2_with (first | ((with_reducible refine gate_callee (f := 90) rfl ?_); refine goesL_ (some 11) rfl rfl Try.func90 (by kernel_rfl) rfl #[.agg #[.int .i64 a0_0, .int .i64 a0_1, .int .i64 a0_2, .int .i64 a0_3], .int .i64 x6_1] rfl (by (try simp only [List.map_toArray, List.map_cons, List.map_nil]); first | done | rfl | (simp only [List.length_drop, List.length_take]; rfl)) ?_; (with_reducible refine (xIsSet.calls a0_0 a0_1 a0_2 a0_3 x6_1 false _ A6.out).mono ?_); rintro e w13 ⟨rfl, hb⟩; refine ⟨_, rfl, ?_⟩; have n0_ := Aside0.mk (Kd.R_below (by (with_reducible repeat (first | apply Kd.R_alloc | apply Kd.R_drewN | apply Kd.R_drew)); exact HO_3.out) hb); have n1_ := Aside0.mk (blk_below (g := gb101) (o := .cells #[.int .i64 a0_0, .int .i64 a0_1, .int .i64 a0_2, .int .i64 a0_3] 27 (0, 0)) (by (with_reducible repeat (first | refine blk_drewN ?_ _ | refine blk_drew ?_ | refine blk_alloc ?_ _)); exact BK101.out) hb); have n2_ := Aside0.mk (below_step (by repeat (first | (with_reducible first | exact HB.out | apply below_alloc | apply pw_below_drewN | apply below_drew1 | refine below_set ?_ GE101.out) | exact HB.out)) hb); clear HO_3; clear BK101; clear HB; have HO_3 := n0_; have BK101 := n1_; have HB := n2_; clear n0_ n1_ n2_; (try clear hb); (try clear hb2); (try clear hk); (try clear hi)))
     go_roundg k1
     case measure => have := HK1.out; omega
     case rel => exact ⟨(x3_1), (wrap64 (x6_1 + 1)), (by first | rfl | (simp; done) | (simp [*]; done)), H', ⟨by have := HK1.out; omega⟩, ⟨by (with_reducible repeat (first | apply Kd.R_alloc | apply Kd.R_drewN | apply Kd.R_drew)); exact HO_3.out⟩, ⟨by (with_reducible repeat (first | refine blk_drewN ?_ _ | refine blk_drew ?_ | refine blk_alloc ?_ _)); exact BK101.out⟩, ⟨by repeat (first | (with_reducible first | exact HB.out | apply below_alloc | apply pw_below_drewN | apply below_drew1 | refine below_set ?_ GE101.out) | exact HB.out)⟩⟩
   ·rw [if_neg c5] at H
    have c5b0 : decide (x6_1 < 16) = false := decide_eq_false c5
    clear c5
    obtain rfl := Option.some.inj H
    go_wp2
    go_ret
    exact ⟨_, by first | rfl | (simp [errW_none, errW_some] <;> rfl) | (simp [*, errW_none, errW_some] <;> rfl), by (with_reducible repeat (first | apply Kd.R_alloc | apply Kd.R_drewN | apply Kd.R_drew)); exact HO_3.out, by repeat (first | (with_reducible first | exact HB.out | apply below_alloc | apply pw_below_drewN | apply below_drew1 | refine below_set ?_ GE101.out) | exact HB.out)⟩
/-! ### impl_within: function 64 -/
def impl_within.f (a0 : Int) (a1 : Int) (a2 : Int) : Option (Bool) := if a0 ≥ a1 then (some (decide (a0 ≤ a2))) else (some false)
set_option maxHeartbeats 8000000 in
set_option maxRecDepth 100000 in
theorem impl_within.calls (a0 : Int) (a1 : Int) (a2 : Int) (r : Bool) (w : World) (h : impl_within.f a0 a1 a2 = some r) :
  Calls Try.prog 64 #[.int .i64 a0, .int .i64 a1, .int .i64 a2] w fun e w' => e = .returned (.bool r) ∧ Drawn0 w w' := by
 have H : (if a0 ≥ a1 then (some (decide (a0 ≤ a2))) else (some false)) = some r := h
 clear h
 by_cases c4 : a0 ≥ a1
 ·rw [if_pos c4] at H
  have c4b0 : decide (a1 ≤ a0) = true := decide_eq_true c4
  clear c4
  obtain rfl := Option.some.inj H
  go_enter Try.func64, Try.ntmps64
  go_wp2
  go_ret
  exact ⟨by first | rfl | (simp; done) | (simp [*]; done), by repeat (first | exact Drawn0.refl _ | apply Drawn0.step)⟩
 ·rw [if_neg c4] at H
  have c4b0 : decide (a1 ≤ a0) = false := decide_eq_false c4
  clear c4
  obtain rfl := Option.some.inj H
  go_enter Try.func64, Try.ntmps64
  go_wp2
  go_ret
  exact ⟨by first | rfl | (simp; done) | (simp [*]; done), by repeat (first | exact Drawn0.refl _ | apply Drawn0.step)⟩
/-! ### impl_isNarrow: function 46 -/
def impl_isNarrow.f (a0_0 : Int) (a0_1 : Int) (a0_2 : Int) (a0_3 : Int) (a1_0 : Int) (a1_1 : Int) (a1_2 : Int) (a1_3 : Int) : Option (Bool) := (xAreSand.f a0_0 a0_1 a0_2 a0_3 a1_0 a1_1 a1_2 a1_3).bind fun t116 => (if t116 = true then ((xProduct.f a0_0 a0_1 a0_2 a0_3).bind fun t117 => (some (decide (t117 ≤ 3000)))) else (some false))
set_option maxHeartbeats 8000000 in
set_option maxRecDepth 100000 in
theorem impl_isNarrow.calls (a0_0 : Int) (a0_1 : Int) (a0_2 : Int) (a0_3 : Int) (a1_0 : Int) (a1_1 : Int) (a1_2 : Int) (a1_3 : Int) (r : Bool) (w : World) (h : impl_isNarrow.f a0_0 a0_1 a0_2 a0_3 a1_0 a1_1 a1_2 a1_3 = some r) :
  Calls Try.prog 46 #[.agg #[.int .i64 a0_0, .int .i64 a0_1, .int .i64 a0_2, .int .i64 a0_3], .agg #[.int .i64 a1_0, .int .i64 a1_1, .int .i64 a1_2, .int .i64 a1_3]] w fun e w' => e = .returned (.bool r) ∧ Below w.heap.size w w' := by
 have hu27 := Try.underlying27
 have hu22 := Try.underlying22
 have HB := Aside0.mk (Below.refl w.heap.size w)
 have H : ((xAreSand.f a0_0 a0_1 a0_2 a0_3 a1_0 a1_1 a1_2 a1_3).bind fun t116 => (if t116 = true then ((xProduct.f a0_0 a0_1 a0_2 a0_3).bind fun t117 => (some (decide (t117 ≤ 3000)))) else (some false))) = some r := h
 clear h
 replace H := Option.bind_eq_some_iff.mp H
 obtain ⟨t116, A30, H⟩ := H
 replace H : (if t116 = true then ((xProduct.f a0_0 a0_1 a0_2 a0_3).bind fun t117 => (some (decide (t117 ≤ 3000)))) else (some false)) = some r := H
 have A3 := Aside0.mk A30
 clear A30
 by_cases c4 : t116 = true
 ·subst c4
  have H1 : ((xProduct.f a0_0 a0_1 a0_2 a0_3).bind fun t117 => (some (decide (t117 ≤ 3000)))) = some r := by rw [if_pos rfl] at H; exact H
  clear H
  have H := H1
  clear H1
  replace H := Option.bind_eq_some_iff.mp H
  obtain ⟨t117, A50, H⟩ := H
  replace H : (some (decide (t117 ≤ 3000))) = some r := H
  have A5 := Aside0.mk A50
  clear A50
  obtain rfl := Option.some.inj H
  go_enter Try.func46, Try.ntmps46
  go_wp2_with (first | ((with_reducible refine gate_dst (N := 2) rfl ?_); refine box_event ?hg (N := 2) ?hd (cs := #[.int .i64 a0_0, .int .i64 a0_1, .int .i64 a0_2, .int .i64 a0_3]) (t := 27) ?hr ?_; (case hd => rfl); (case hg => rfl); (case hr => first | (go_simp; done) | (go_simp; rfl)); intro gb114 hg w6 hbox hb; have n0_ := Aside0.mk (below_step (by repeat (first | (with_reducible first | exact HB.out | apply below_alloc | apply pw_below_drewN | apply below_drew1) | exact HB.out)) hb); have n1_ := Aside0.mk (hbox); have n2_ := Aside0.mk ((by rw [hg]; exact (below_size (by repeat (first | (with_reducible first | exact HB.out | apply below_alloc | apply pw_below_drewN | apply below_drew1) | exact HB.out))) : w.heap.size ≤ gb114)); have n3_ := Aside0.mk ((by rw [hg]; exact (below_size (by repeat (first | (with_reducible first | exact HB.out | apply below_alloc | apply pw_below_drewN | apply below_drew1) | exact HB.out))) : w.heap.size ≤ gb114)); clear HB; have HB := n0_; have BK114 := n1_; have GW114 := n2_; have GE114 := n3_; clear n0_ n1_ n2_ n3_; clear hb hbox hg) | ((with_reducible refine gate_dst (N := 3) rfl ?_); refine box_event ?hg (N := 3) ?hd (cs := #[.int .i64 a1_0, .int .i64 a1_1, .int .i64 a1_2, .int .i64 a1_3]) (t := 22) ?hr ?_; (case hd => rfl); (case hg => rfl); (case hr => first | (go_simp; done) | (go_simp; rfl)); intro gb115 hg w7 hbox hb; have n0_ := Aside0.mk (blk_below (g := gb114) (o := .cells #[.int .i64 a0_0, .int .i64 a0_1, .int .i64 a0_2, .int .i64 a0_3] 27 (0, 0)) (by (with_reducible repeat (first | refine blk_drewN ?_ _ | refine blk_drew ?_ | refine blk_alloc ?_ _)); exact BK114.out) hb); have n1_ := Aside0.mk (below_step (by repeat (first | (with_reducible first | exact HB.out | apply below_alloc | apply pw_below_drewN | apply below_drew1 | refine below_set ?_ GE114.out) | exact HB.out)) hb); have n2_ := Aside0.mk (hbox); have n3_ := Aside0.mk ((by rw [hg]; exact (below_size (by repeat (first | (with_reducible first | exact HB.out | apply below_alloc | apply pw_below_drewN | apply below_drew1 | refine below_set ?_ GE114.out) | exact HB.out))) : w.heap.size ≤ gb115)); have n4_ := Aside0.mk ((by rw [hg]; exact (below_size (by repeat (first | (with_reducible first | exact HB.out | apply below_alloc | apply pw_below_drewN | apply below_drew1 | refine below_set ?_ GE114.out) | exact HB.out))) : w.heap.size ≤ gb115)); have n5_ := Aside0.mk ((by rw [hg]; exact Nat.ne_of_lt (blk_lt (g := gb114) (o := .cells #[.int .i64 a0_0, .int .i64 a0_1, .int .i64 a0_2, .int .i64 a0_3] 27 (0, 0)) (by (with_reducible repeat (first | refine blk_drewN ?_ _ | refine blk_drew ?_ | refine blk_alloc ?_ _)); exact BK114.out)) : gb114 ≠ gb115)); have n6_ := Aside0.mk ((by rw [hg]; exact Nat.ne_of_gt (blk_lt (g := gb114) (o := .cells #[.int .i64 a0_0, .int .i64 a0_1, .int .i64 a0_2, .int .i64 a0_3] 27 (0, 0)) (by (with_reducible repeat (first | refine blk_drewN ?_ _ | refine blk_drew ?_ | refine blk_alloc ?_ _)); exact BK114.out)) : gb115 ≠ gb114)); clear BK114; clear HB; have BK114 := n0_; have HB := n1_; have BK115 := n2_; have GW115 := n3_; have GE115 := n4_; have NB114_115 := n5_; have NB115_114 := n6_; clear n0_ n1_ n2_ n3_ n4_ n5_ n6_; clear hb hbox hg; have hnb8 := NB114_115.out; have hnc8 := NB115_114.out; have hcz9_0 : w7.cell? ⟨gb114, 0, none⟩ = some (.int .i64 a0_0) := (blk_cell BK114.out 0).trans rfl; have hcz9_1 : w7.cell? ⟨gb114, 1, none⟩ = some (.int .i64 a0_1) := (blk_cell BK114.out 1).trans rfl; have hcz9_2 : w7.cell? ⟨gb114, 2, none⟩ = some (.int .i64 a0_2) := (blk_cell BK114.out 2).trans rfl; have hcz9_3 : w7.cell? ⟨gb114, 3, none⟩ = some (.int .i64 a0_3) := (blk_cell BK114.out 3).trans rfl; have hfz9_0 := blk_frozen BK114.out 0; have hfz9_1 := blk_frozen BK114.out 1; have hfz9_2 := blk_frozen BK114.out 2; have hfz9_3 := blk_frozen BK114.out 3; have hcz10_0 : w7.cell? ⟨gb115, 0, none⟩ = some (.int .i64 a1_0) := (blk_cell BK115.out 0).trans rfl; have hcz10_1 : w7.cell? ⟨gb115, 1, none⟩ = some (.int .i64 a1_1) := (blk_cell BK115.out 1).trans rfl; have hcz10_2 : w7.cell? ⟨gb115, 2, none⟩ = some (.int .i64 a1_2) := (blk_cell BK115.out 2).trans rfl; have hcz10_3 : w7.cell? ⟨gb115, 3, none⟩ = some (.int .i64 a1_3) := (blk_cell BK115.out 3).trans rfl; have hfz10_0 := blk_frozen BK115.out 0; have hfz10_1 := blk_frozen BK115.out 1; have hfz10_2 := blk_frozen BK115.out 2; have hfz10_3 := blk_frozen BK115.out 3) | ((with_reducible refine gate_callee (f := 63) rfl ?_); refine goesL_ (some 7) rfl rfl Try.func63 (by kernel_rfl) rfl #[.agg #[.int .i64 a0_0, .int .i64 a0_1, .int .i64 a0_2, .int .i64 a0_3], .agg #[.int .i64 a1_0, .int .i64 a1_1, .int .i64 a1_2, .int .i64 a1_3]] rfl (by (try simp only [List.map_toArray, List.map_cons, List.map_nil]); first | done | rfl | (simp only [List.length_drop, List.length_take]; rfl)) ?_; (with_reducible refine (xAreSand.calls a0_0 a0_1 a0_2 a0_3 a1_0 a1_1 a1_2 a1_3 true _ A3.out).mono ?_); rintro e w11 ⟨rfl, hb⟩; refine ⟨_, rfl, ?_⟩; have n0_ := Aside0.mk (blk_below (g := gb114) (o := .cells #[.int .i64 a0_0, .int .i64 a0_1, .int .i64 a0_2, .int .i64 a0_3] 27 (0, 0)) (by (with_reducible repeat (first | refine blk_drewN ?_ _ | refine blk_drew ?_ | refine blk_alloc ?_ _)); exact BK114.out) hb); have n1_ := Aside0.mk (blk_below (g := gb115) (o := .cells #[.int .i64 a1_0, .int .i64 a1_1, .int .i64 a1_2, .int .i64 a1_3] 22 (0, 0)) (by (with_reducible repeat (first | refine blk_drewN ?_ _ | refine blk_drew ?_ | refine blk_alloc ?_ _)); exact BK115.out) hb); have n2_ := Aside0.mk (below_step (by repeat (first | (with_reducible first | exact HB.out | apply below_alloc | apply pw_below_drewN | apply below_drew1 | refine below_set ?_ GE114.out | refine below_set ?_ GE115.out) | exact HB.out)) hb); clear BK114; clear BK115; clear HB; have BK114 := n0_; have BK115 := n1_; have HB := n2_; clear n0_ n1_ n2_; (try clear hb); (try clear hb2); (try clear hk); (try clear hi); have hcz12_0 : w11.cell? ⟨gb114, 0, none⟩ = some (.int .i64 a0_0) := (blk_cell BK114.out 0).trans rfl; have hcz12_1 : w11.cell? ⟨gb114, 1, none⟩ = some (.int .i64 a0_1) := (blk_cell BK114.out 1).trans rfl; have hcz12_2 : w11.cell? ⟨gb114, 2, none⟩ = some (.int .i64 a0_2) := (blk_cell BK114.out 2).trans rfl; have hcz12_3 : w11.cell? ⟨gb114, 3, none⟩ = some (.int .i64 a0_3) := (blk_cell BK114.out 3).trans rfl; have hfz12_0 := blk_frozen BK114.out 0; have hfz12_1 := blk_frozen BK114.out 1; have hfz12_2 := blk_frozen BK114.out 2; have hfz12_3 := blk_frozen BK114.out 3) | (go_at_call 80; (with_reducible refine (xProduct.calls a0_0 a0_1 a0_2 a0_3 t117 _ A5.out).mono ?_); rintro e w13 ⟨rfl, hb⟩; have n0_ := Aside0.mk (blk_below (g := gb114) (o := .cells #[.int .i64 a0_0, .int .i64 a0_1, .int .i64 a0_2, .int .i64 a0_3] 27 (0, 0)) (by (with_reducible repeat (first | refine blk_drewN ?_ _ | refine blk_drew ?_ | refine blk_alloc ?_ _)); exact BK114.out) hb); have n1_ := Aside0.mk (blk_below (g := gb115) (o := .cells #[.int .i64 a1_0, .int .i64 a1_1, .int .i64 a1_2, .int .i64 a1_3] 22 (0, 0)) (by (with_reducible repeat (first | refine blk_drewN ?_ _ | refine blk_drew ?_ | refine blk_alloc ?_ _)); exact BK115.out) hb); have n2_ := Aside0.mk (below_step (by repeat (first | (with_reducible first | exact HB.out | apply below_alloc | apply pw_below_drewN | apply below_drew1 | refine below_set ?_ GE114.out | refine below_set ?_ GE115.out) | exact HB.out)) hb); clear BK114; clear BK115; clear HB; have BK114 := n0_; have BK115 := n1_; have HB := n2_; clear n0_ n1_ n2_; (try clear hb); (try clear hb2); (try clear hk); (try clear hi)))
  go_ret
  exact ⟨by first | rfl | (simp [errW_none, errW_some] <;> rfl) | (simp [*, errW_none, errW_some] <;> rfl), by repeat (first | (with_reducible first | exact HB.out | apply below_alloc | apply pw_below_drewN | apply below_drew1 | refine below_set ?_ GE114.out | refine below_set ?_ GE115.out) | exact HB.out)⟩
 ·replace c4 := Bool.eq_false_iff.mpr c4
  subst c4
  have H1 : (some false) = some r := by rw [if_neg (show ¬ (false = true) by decide)] at H; exact H
  clear H
  have H := H1
  clear H1
  obtain rfl := Option.some.inj H
  go_enter Try.func46, Try.ntmps46
  go_wp2_with (first | ((with_reducible refine gate_dst (N := 2) rfl ?_); refine box_event ?hg (N := 2) ?hd (cs := #[.int .i64 a0_0, .int .i64 a0_1, .int .i64 a0_2, .int .i64 a0_3]) (t := 27) ?hr ?_; (case hd => rfl); (case hg => rfl); (case hr => first | (go_simp; done) | (go_simp; rfl)); intro gb114 hg w14 hbox hb; have n0_ := Aside0.mk (below_step (by repeat (first | (with_reducible first | exact HB.out | apply below_alloc | apply pw_below_drewN | apply below_drew1) | exact HB.out)) hb); have n1_ := Aside0.mk (hbox); have n2_ := Aside0.mk ((by rw [hg]; exact (below_size (by repeat (first | (with_reducible first | exact HB.out | apply below_alloc | apply pw_below_drewN | apply below_drew1) | exact HB.out))) : w.heap.size ≤ gb114)); have n3_ := Aside0.mk ((by rw [hg]; exact (below_size (by repeat (first | (with_reducible first | exact HB.out | apply below_alloc | apply pw_below_drewN | apply below_drew1) | exact HB.out))) : w.heap.size ≤ gb114)); clear HB; have HB := n0_; have BK114 := n1_; have GW114 := n2_; have GE114 := n3_; clear n0_ n1_ n2_ n3_; clear hb hbox hg) | ((with_reducible refine gate_dst (N := 3) rfl ?_); refine box_event ?hg (N := 3) ?hd (cs := #[.int .i64 a1_0, .int .i64 a1_1, .int .i64 a1_2, .int .i64 a1_3]) (t := 22) ?hr ?_; (case hd => rfl); (case hg => rfl); (case hr => first | (go_simp; done) | (go_simp; rfl)); intro gb115 hg w15 hbox hb; have n0_ := Aside0.mk (blk_below (g := gb114) (o := .cells #[.int .i64 a0_0, .int .i64 a0_1, .int .i64 a0_2, .int .i64 a0_3] 27 (0, 0)) (by (with_reducible repeat (first | refine blk_drewN ?_ _ | refine blk_drew ?_ | refine blk_alloc ?_ _)); exact BK114.out) hb); have n1_ := Aside0.mk (below_step (by repeat (first | (with_reducible first | exact HB.out | apply below_alloc | apply pw_below_drewN | apply below_drew1 | refine below_set ?_ GE114.out) | exact HB.out)) hb); have n2_ := Aside0.mk (hbox); have n3_ := Aside0.mk ((by rw [hg]; exact (below_size (by repeat (first | (with_reducible first | exact HB.out | apply below_alloc | apply pw_below_drewN | apply below_drew1 | refine below_set ?_ GE114.out) | exact HB.out))) : w.heap.size ≤ gb115)); have n4_ := Aside0.mk ((by rw [hg]; exact (below_size (by repeat (first | (with_reducible first | exact HB.out | apply below_alloc | apply pw_below_drewN | apply below_drew1 | refine below_set ?_ GE114.out) | exact HB.out))) : w.heap.size ≤ gb115)); have n5_ := Aside0.mk ((by rw [hg]; exact Nat.ne_of_lt (blk_lt (g := gb114) (o := .cells #[.int .i64 a0_0, .int .i64 a0_1, .int .i64 a0_2, .int .i64 a0_3] 27 (0, 0)) (by (with_reducible repeat (first | refine blk_drewN ?_ _ | refine blk_drew ?_ | refine blk_alloc ?_ _)); exact BK114.out)) : gb114 ≠ gb115)); have n6_ := Aside0.mk ((by rw [hg]; exact Nat.ne_of_gt (blk_lt (g := gb114) (o := .cells #[.int .i64 a0_0, .int .i64 a0_1, .int .i64 a0_2, .int .i64 a0_3] 27 (0, 0)) (by (with_reducible repeat (first | refine blk_drewN ?_ _ | refine blk_drew ?_ | refine blk_alloc ?_ _)); exact BK114.out)) : gb115 ≠ gb114)); clear BK114; clear HB; have BK114 := n0_; have HB := n1_; have BK115 := n2_; have GW115 := n3_; have GE115 := n4_; have NB114_115 := n5_; have NB115_114 := n6_; clear n0_ n1_ n2_ n3_ n4_ n5_ n6_; clear hb hbox hg; have hnb16 := NB114_115.out; have hnc16 := NB115_114.out; have hcz17_0 : w15.cell? ⟨gb114, 0, none⟩ = some (.int .i64 a0_0) := (blk_cell BK114.out 0).trans rfl; have hcz17_1 : w15.cell? ⟨gb114, 1, none⟩ = some (.int .i64 a0_1) := (blk_cell BK114.out 1).trans rfl; have hcz17_2 : w15.cell? ⟨gb114, 2, none⟩ = some (.int .i64 a0_2) := (blk_cell BK114.out 2).trans rfl; have hcz17_3 : w15.cell? ⟨gb114, 3, none⟩ = some (.int .i64 a0_3) := (blk_cell BK114.out 3).trans rfl; have hfz17_0 := blk_frozen BK114.out 0; have hfz17_1 := blk_frozen BK114.out 1; have hfz17_2 := blk_frozen BK114.out 2; have hfz17_3 := blk_frozen BK114.out 3; have hcz18_0 : w15.cell? ⟨gb115, 0, none⟩ = some (.int .i64 a1_0) := (blk_cell BK115.out 0).trans rfl; have hcz18_1 : w15.cell? ⟨gb115, 1, none⟩ = some (.int .i64 a1_1) := (blk_cell BK115.out 1).trans rfl; have hcz18_2 : w15.cell? ⟨gb115, 2, none⟩ = some (.int .i64 a1_2) := (blk_cell BK115.out 2).trans rfl; have hcz18_3 : w15.cell? ⟨gb115, 3, none⟩ = some (.int .i64 a1_3) := (blk_cell BK115.out 3).trans rfl; have hfz18_0 := blk_frozen BK115.out 0; have hfz18_1 := blk_frozen BK115.out 1; have hfz18_2 := blk_frozen BK115.out 2; have hfz18_3 := blk_frozen BK115.out 3) | ((with_reducible refine gate_callee (f := 63) rfl ?_); refine goesL_ (some 7) rfl rfl Try.func63 (by kernel_rfl) rfl #[.agg #[.int .i64 a0_0, .int .i64 a0_1, .int .i64 a0_2, .int .i64 a0_3], .agg #[.int .i64 a1_0, .int .i64 a1_1, .int .i64 a1_2, .int .i64 a1_3]] rfl (by (try simp only [List.map_toArray, List.map_cons, List.map_nil]); first | done | rfl | (simp only [List.length_drop, List.length_take]; rfl)) ?_; (with_reducible refine (xAreSand.calls a0_0 a0_1 a0_2 a0_3 a1_0 a1_1 a1_2 a1_3 false _ A3.out).mono ?_); rintro e w19 ⟨rfl, hb⟩; refine ⟨_, rfl, ?_⟩; have n0_ := Aside0.mk (blk_below (g := gb114) (o := .cells #[.int .i64 a0_0, .int .i64 a0_1, .int .i64 a0_2, .int .i64 a0_3] 27 (0, 0)) (by (with_reducible repeat (first | refine blk_drewN ?_ _ | refine blk_drew ?_ | refine blk_alloc ?_ _)); exact BK114.out) hb); have n1_ := Aside0.mk (blk_below (g := gb115) (o := .cells #[.int .i64 a1_0, .int .i64 a1_1, .int .i64 a1_2, .int .i64 a1_3] 22 (0, 0)) (by (with_reducible repeat (first | refine blk_drewN ?_ _ | refine blk_drew ?_ | refine blk_alloc ?_ _)); exact BK115.out) hb); have n2_ := Aside0.mk (below_step (by repeat (first | (with_reducible first | exact HB.out | apply below_alloc | apply pw_below_drewN | apply below_drew1 | refine below_set ?_ GE114.out | refine below_set ?_ GE115.out) | exact HB.out)) hb); clear BK114; clear BK115; clear HB; have BK114 := n0_; have BK115 := n1_; have HB := n2_; clear n0_ n1_ n2_; (try clear hb); (try clear hb2); (try clear hk); (try clear hi)))
  go_ret
  exact ⟨by first | rfl | (simp [errW_none, errW_some] <;> rfl) | (simp [*, errW_none, errW_some] <;> rfl), by repeat (first | (with_reducible first | exact HB.out | apply below_alloc | apply pw_below_drewN | apply below_drew1 | refine below_set ?_ GE114.out | refine below_set ?_ GE115.out) | exact HB.out)⟩
end Go.Proofs.Ytlhodfjdmafapaa.QIm
end
section
namespace Go.Proofs.Ytlhodfjdmafapaa
open Go.RowKit Go.Proofs.YtlhodfjdmafapaaW.PrintWords Go.Proofs.YtlhodfjdmafapaaW.PrintLast Go.Proofs.Ytlhodfjdmafapaa.QIm
set_option linter.unusedVariables false
set_option linter.unusedSimpArgs false
theorem sets_l0 (k : Nat → Int) : ∀ (d i : Nat) (acc : List Int), i + d = 16 → acc.length ≤ i → impl_Kit_sets.l0 (d + 1) acc (i : Int) (k 0) (k 1) (k 2) (k 3) = some (acc ++ ((List.range' i d).map fun (j : Nat) => (j : Int)).filter (isSetB k))
 | 0, i, acc, h, ha => by
  simp only [impl_Kit_sets.l0]
  rw [if_neg (by omega)]
  simp
 | d + 1, i, acc, h, ha => by
  have hs : xIsSet.f (k 0) (k 1) (k 2) (k 3) (i : Int) = some (isSetB k (i : Int)) := rfl
  have hw : wrap64 ((i : Int) + 1) = ((i + 1 : Nat) : Int) := by unfold wrap64; omega
  rw [impl_Kit_sets.l0, if_pos (by omega), hs, Option.bind_some]
  cases hb : isSetB k (i : Int)
  ·rw [if_neg (by simp), hw, sets_l0 k d (i + 1) acc (by omega) (by omega)]
   simp [List.range'_succ, hb]
  ·rw [if_pos rfl, if_pos (by omega), hw, sets_l0 k d (i + 1) (acc ++ [(i : Int)]) (by omega) (by simp; omega)]
   simp [List.range'_succ, hb]
theorem sets_f (k : Nat → Int) : impl_Kit_sets.f 17 (k 0) (k 1) (k 2) (k 3) = some (setsL k) := by
 have := sets_l0 k 16 0 [] (by omega) (by simp)
 unfold impl_Kit_sets.f
 rw [show (0 : Int) = ((0 : Nat) : Int) from rfl, this]
 simp only [setsL, List.range_eq_range', List.nil_append]
theorem sets_any (k : Nat → Int) (w : World) : Calls Try.prog 65 #[A4 k] w fun e w' => ∃ v0 : Value, e = .returned v0 ∧ Kd.R (Kd.int .i64) 3 w' w.heap.size (fun _ => True) v0 (setsL k) ∧ Below w.heap.size w w' :=
 impl_Kit_sets.calls 17 (k 0) (k 1) (k 2) (k 3) (setsL k) w (sets_f k)
theorem sand_good {k : Nat → Int} {s : Sd} (h : Sand k (fn4 s)) : good4 s :=
 ⟨⟨h.lo 0 (by omega), Int.le_trans (h.hi 0 (by omega)) (h.top 0 (by omega))⟩, ⟨h.lo 1 (by omega), Int.le_trans (h.hi 1 (by omega)) (h.top 1 (by omega))⟩, ⟨h.lo 2 (by omega), Int.le_trans (h.hi 2 (by omega)) (h.top 2 (by omega))⟩, ⟨h.lo 3 (by omega), Int.le_trans (h.hi 3 (by omega)) (h.top 3 (by omega))⟩⟩
theorem MapKd.own_tight {P : Program} {k : TypeId} {α β : Type} {M : MapKd P k α β} {w : World} {b n : Nat} {L : List (α × β)} (h : M.own w b n L) : M.own w b L.length L := by
 obtain ⟨D, ⟨es, clock, hb, F, hs, hD⟩, h2⟩ := h
 have h1 : w.ownsMap P k rdV b es.size D := ⟨es, clock, hb, F, Nat.le_refl _, hD⟩
 have e : Maps.size D = es.size := by
  rw [hD]
  simp [Maps.size, length_sorted]
 rw [h2.size] at e
 exact ⟨D, e ▸ h1, h2⟩
theorem R_at {α : Type} {d : Kd α} {e base : Nat} {ok : Nat → Prop} {w : World} {v : Value} {xs : List α} (h : Kd.R d e w base ok v xs) : ∃ n, n = base ∧ Kd.R d e w n ok v xs := ⟨_, rfl, h⟩
end Go.Proofs.Ytlhodfjdmafapaa
end
