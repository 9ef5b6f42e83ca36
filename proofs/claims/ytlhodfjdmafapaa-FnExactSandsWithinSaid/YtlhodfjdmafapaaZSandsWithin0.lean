/- Texts behind a row, merged by a program of this repo. No statement of the seat is proved here. -/
import Derived.Test.YtlhodfjdmafapaaRows
import Derived.WalkKit
import Derived.ProofKit
import Derived.SizedLaws
import Derived.Below
import Derived.Maps.RangeWalk
import Derived.Maps.OwnSet
import Derived.Maps.OwnOps
import Derived.WalkSpells
import Derived.WalkLawsBesides
import Derived.BigQuiet
import Derived.Deep.QuietTactic
import Derived.Test.YtlhodfjdmafapaaProg
import Derived.Deep.RegionHeld3
import Derived.Test.YtlhodfjdmafapaaWWords
import Derived.WideKeyArr
import Derived.DeepKeys4
import Derived.Test.YtlhodfjdmafapaaWLast
import Derived.Test.YtlhodfjdmafapaaWMore
import Derived.Test.YtlhodfjdmafapaaWInvWords
import Derived.Deep.DeepCutAuto
import Derived.Deep.RegionLaw
import Derived.Laws.StructEq
import Derived.DeepKeys
import Derived.Deep.Draws
import Derived.Deep.AppendLies
import Derived.Maps.AppendAt
import Derived.OwnWalk
import Derived.Laws.BytesArg
import Derived.Laws.MakeOwn
import Derived.Laws.OwnMore
import Derived.Deep.OwnRows
import Derived.Tactics
import Derived.Lib.ConvBytes
import Derived.Laws.Slices
import Derived.KernelRfl
import Derived.RowKit3
import Derived.Deep.LoopGhost
import Derived.WideLaws
import Derived.Deep.CutBlock
import Derived.Laws.Rows
import Derived.Lib.AppendStr
import Derived.ArgAppend
import Derived.Laws.IdiomCopy
import Derived.OrdersHeld
import Derived.Laws.BitsLemmas
import Derived.RowKit
import Derived.Test.YtlhodfjdmafapaaWTab
import Derived.Test.YtlhodfjdmafapaaWQPut
import Derived.Test.YtlhodfjdmafapaaWApart
import Derived.Test.YtlhodfjdmafapaaWArr
import Derived.Test.YtlhodfjdmafapaaWZeros
import Derived.Test.YtlhodfjdmafapaaWFoot
import Derived.Test.YtlhodfjdmafapaaWKept
import Derived.Test.YtlhodfjdmafapaaWShare
import Derived.Test.YtlhodfjdmafapaaWN
import Derived.Test.YtlhodfjdmafapaaWFootNe
import Derived.Test.YtlhodfjdmafapaaWAt
import Derived.Test.YtlhodfjdmafapaaWRepsOne
import Derived.Test.YtlhodfjdmafapaaWInv
import Derived.Test.YtlhodfjdmafapaaWNEv
import Derived.Laws.Bits64b
import Derived.Ground.Names2Prog
import Derived.Ground.SlsfProg
import Derived.Shelf.SlSortCmp.NoneTotal
section
namespace Go.Proofs.Ytlhodfjdmafapaa
open Go.ChangeShapes Go.WideShapes Go.ChangeAt Go.RowKit
theorem own : ownKnob Try.prog.godebug = none := by kernel_rfl
theorem laidOut : laidOutB Try.prog = true := by kernel_rfl
section
variable {H : Type} {enc : TypeId × Value → H} {P : Program}
theorem trodAll_stays (hl : laidOutB P = true) {W W' : World} {sp' : Nat → Bool} : ∀ {ts : List TypeId} {vs : List Value} {ds : List (DataW H)} {ps : List MemPlace},
  (ts.all fun t => P.readableRec t && decide (t < P.types.size)) = true → DataW.TrodAll enc P W 0 (fun _ => true) true ts vs ds ps →
  (∀ p ∈ ps, W.sameAt W' p) → (∀ p ∈ ps, sp' p.block = true) → DataW.TrodAll enc P W' 0 sp' true ts vs ds ps
 | [], [], [], ps, _, h, _, _ => h
 | t :: ts, v :: vs, d :: ds, ps, ht, h, hs, hb => by
  obtain ⟨p, q, h1, h2, rfl⟩ := h
  simp only [List.all_cons, Bool.and_eq_true, decide_eq_true_eq] at ht
  exact ⟨p, q, WideElems.Trod_stays hl ht.1.1 ht.1.2 h1 (fun x hx => hs x (List.mem_append_left _ hx)) (fun x hx => hb x (List.mem_append_left _ hx)),
   trodAll_stays hl ht.2 h2 (fun x hx => hs x (List.mem_append_right _ hx)) (fun x hx => hb x (List.mem_append_right _ hx)), rfl⟩
 | [], [], _ :: _, _, _, h, _, _ => h.elim
 | [], _ :: _, _, _, _, h, _, _ => by cases h
 | _ :: _, [], _, _, _, h, _, _ => by cases h
 | _ :: _, _ :: _, [], _, _, h, _, _ => by cases h
end
theorem trodAll_len {H : Type} {enc : TypeId × Value → H} {P : Program} {w : World} {base : Nat} {sp : Nat → Bool} {held : Bool} : ∀ {ts : List TypeId} {vs : List Value} {ds : List (DataW H)} {ps : List MemPlace},
  DataW.TrodAll enc P w base sp held ts vs ds ps → vs.length = ts.length ∧ ds.length = ts.length
 | [], [], [], _, _ => ⟨rfl, rfl⟩
 | t :: ts, v :: vs, d :: ds, _, h => by
  obtain ⟨p, q, _, h2, _⟩ := h
  have := trodAll_len h2
  simp [this.1, this.2]
 | [], [], _ :: _, _, h => h.elim
 | [], _ :: _, _, _, h => by cases h
 | _ :: _, [], _, _, h => by cases h
 | _ :: _, _ :: _, [], _, h => by cases h
theorem law_lifted {C : Checked} {os : Os} (started : os.Started) (hown : ownKnob C.prog.godebug = none) (hlaid : laidOutB C.prog = true) {H : Type} {enc : TypeId × Value → H} {f : FuncId} {fn : Func} {s : ChangeSpec} {conds : List PathCond} {apart : Bool}
  (noInit : C.prog.inits.idxOf? f = none) (hfn : C.prog.funcs[f]? = some fn) (hsv : s.vars = [])
  (hsp : ∀ ds : List (DataW H), ds.length = fn.params.size → (s.fn H ds).results = [.lit (.bool true)] ∧ (s.fn H ds).args = ds ∧ (s.fn H ds).vars = [])
  (hpar : (fn.params.toList.all fun t => C.prog.readableRec t && decide (t < C.prog.types.size)) = true) {tb : TypeId} (hrt : fn.resultTypes = #[tb]) (htb : C.prog.underlying tb = some .bool)
  (witness : ∃ (w : World) (tape : Tape) (i : Input), w.os = os ∧ (w.forCall tape i).Shaped C.prog ∧ i.vars = [] ∧ Input.okWide C.prog (w.forCall tape i) .any w.heap.size f i ∧
   s.pre6 enc C.prog fn conds apart (w.forCall tape i).memory i.args ∧ Assume.holds {} C.prog (lone (Frame.enter C.prog f i.args .normal) [] (w.forCall tape i)))
  (walk : ∀ (W : World) (base : Nat) (args : Array Value) (ds : List (DataW H)) (p : List MemPlace), args.size = fn.params.size →
   (∀ (j : Nat) t v, fn.params[j]? = some t → args[j]? = some v → Value.okWide C.prog W .any base t v) → DataW.TrodAll enc C.prog W 0 (fun _ => true) true fn.params.toList args.toList ds p →
   (∀ x ∈ p, x.block < W.heap.size) →
   (DataW.weightsEach C.prog fn.params.toList ds).all (· ≤ reachBytes) = true → Calls C.prog f args W fun e W' => e = .returned (.bool true) ∧ Below W.heap.size W W') :
  ReturnsInHanded {} C os f .any (s.pre6 enc C.prog fn conds apart) (s.post enc C.prog fn apart true false false) := by
 refine returnsInHanded_of_change_sized (C := C) hown started noInit hfn witness ?_
 intro W base args ds gs before hval hW _ hsz _
 have hW' := hW
 obtain ⟨p, q, hA, hV, rfl, hfz, hnd⟩ := hW
 rw [hsv] at hV
 obtain ⟨rfl, rfl⟩ := trodVars_none hV
 have hlen := trodAll_len hA
 have hlt : ∀ x ∈ p, x.block < W.heap.size := fun x hx => hW'.lt x (List.mem_append_left _ hx)
 have hsz' : (DataW.weightsEach C.prog fn.params.toList ds).all (· ≤ reachBytes) = true := by
  have e : s.plain.varTypes C.prog = [] := by simp [ChangeSpec.plain, hsv, DataSpec.varTypes]
  rw [e, List.append_nil, List.append_nil] at hsz
  exact hsz
 refine (walk W base args ds p (by simpa using hlen.1) hval hA hlt hsz').mono fun e W' ⟨he, bel⟩ => ?_
 subst he
 obtain ⟨e1, e2, e3⟩ := hsp ds (by simpa using hlen.2)
 refine ⟨_, rfl, ds, [], _, [], p, [], hW', ?_, ?_, ?_, bel.frame _, fun h => by cases h⟩
 ·rw [List.append_nil, e1, hrt]; exact trodAll_mk1 (shut_bool htb _)
 ·rw [List.append_nil, e2]; exact trodAll_stays hlaid hpar hA (fun x hx => bel.same (hlt x hx)) (fun x hx => by simpa using hlt x hx)
 ·rw [List.append_nil, e3, hsv]; rfl
theorem cell_int {P : Program} {W : World} {r : Reach} {base : Nat} {e : TypeId} {v : Value} (he : P.underlying e = some (.int .i64)) (h : Cell.okWide P W r base e v) :
  ∃ n : Int, v = .int .i64 n ∧ -9223372036854775808 ≤ n ∧ n ≤ 9223372036854775807 := by
 cases v <;> simp [Cell.okWide, Cell.ok, he, IntKind.has, IntKind.min, IntKind.max, IntKind.signed, IntKind.bits] at h
 obtain ⟨rfl, h1, h2⟩ := h
 exact ⟨_, rfl, h1, h2⟩
/-- an int among the arguments -/
theorem open_i64 {P : Program} {W : World} {r : Reach} {base : Nat} {e : TypeId} {v : Value} (he : P.underlying e = some (.int .i64)) (h : Value.okWide P W r base e v) :
  ∃ n : Int, v = .int .i64 n ∧ -9223372036854775808 ≤ n ∧ n ≤ 9223372036854775807 := by
 unfold Value.okWide at h
 rw [he] at h
 exact cell_int he h
/-- an array, or a struct, of ints alone -/
theorem open_flat {P : Program} {W : World} {base : Nat} {t e : TypeId} {v : Value} (k : Nat) (he : P.underlying e = some (.int .i64)) (hty : P.cellTypes P.depth t = some (List.replicate k e)) (hc : P.cellsOf t = k)
  (hu : (∃ fs, P.underlying t = some (.struct fs)) ∨ ∃ n u, P.underlying t = some (.array n u)) (h : Value.okWide P W .any base t v) :
  ∃ g : Nat → Int, v = .agg ((List.range k).map fun i => Value.int .i64 (g i)).toArray ∧ ∀ i, -9223372036854775808 ≤ g i ∧ g i ≤ 9223372036854775807 := by
 have h2 : ∃ cs, v = .agg cs ∧ cs.size = P.cellsOf t ∧ Row.okWide P W .any base t cs := by
  unfold Value.okWide at h
  rcases hu with ⟨fs, hu⟩ | ⟨n, u, hu⟩ <;> rw [hu] at h <;> exact h
 obtain ⟨cs, rfl, hs, ts, ht, _, hcell⟩ := h2
 rw [hty] at ht
 obtain rfl : List.replicate k e = ts := Option.some.inj ht
 rw [hc] at hs
 have hx : ∀ i, i < k → ∃ n : Int, cs[i]? = some (.int .i64 n) ∧ -9223372036854775808 ≤ n ∧ n ≤ 9223372036854775807 := by
  intro i hi
  obtain ⟨u, hu, hok⟩ := hcell i cs[i] (by simp [hs, hi])
  rw [List.length_replicate, Nat.mod_eq_of_lt hi, List.getElem?_replicate, if_pos hi] at hu
  obtain rfl := Option.some.inj hu
  obtain ⟨n, hn, hb⟩ := cell_int he hok
  exact ⟨n, by rw [← hn]; simp [hs, hi], hb⟩
 refine ⟨fun i => match cs[i]? with | some (.int .i64 n) => n | _ => 0, ?_, ?_⟩
 ·congr 1
  apply Array.ext'
  apply List.ext_getElem?
  intro i
  simp only [Array.getElem?_toList, List.getElem?_map]
  by_cases hi : i < k
  ·obtain ⟨n, hn, _⟩ := hx i hi
   rw [hn, List.getElem?_range hi]
   simp [hn]
  ·rw [Array.getElem?_eq_none (by omega), List.getElem?_eq_none (by simp; omega)]
   rfl
 ·intro i
  by_cases hi : i < k
  ·obtain ⟨n, hn, hb⟩ := hx i hi
   simp only [hn]; exact hb
  ·have h0 : cs[i]? = none := Array.getElem?_eq_none (by omega)
   simp only [h0]
   omega
theorem args3 {a : Array Value} (h : a.size = 3) : ∃ v0 v1 v2, a = #[v0, v1, v2] := by
 obtain ⟨l⟩ := a
 match l, h with
 | [v0, v1, v2], _ => exact ⟨v0, v1, v2, rfl⟩
end Go.Proofs.Ytlhodfjdmafapaa
end
section
namespace Go.Proofs.Ytlhodfjdmafapaa
open Go.RowKit Go.Maps Go.WideShapes
set_option linter.unusedVariables false
set_option linter.unusedSimpArgs false
/-- a kind of map: how its keys and elements are told -/
structure MapKd (P : Program) (k : TypeId) (α β : Type) where
 eK : α → Value
 lK : α → Lit
 good : α → Prop
 eV : β → Value
 law : Keyed P k
 key : ∀ x, good x → keyOf P k (eK x) = some (lK x)
 inj : ∀ x y, good x → good y → lK x = lK y → x = y
 vinj : ∀ a b, eV a = eV b → a = b
/-- an element read as the value that it is -/
def rdV (v : Value) : Option (DataW Value × List MemPlace) := some (.held v, [])
open Classical in
noncomputable def getA {α β : Type} (L : List (α × β)) (x : α) : Option β := (L.find? (fun p => decide (p.1 = x))).map (·.2)
open Classical in
noncomputable def delA {α β : Type} (L : List (α × β)) (x : α) : List (α × β) := L.filter (fun p => decide (p.1 ≠ x))
noncomputable def putA {α β : Type} (L : List (α × β)) (x : α) (y : β) : List (α × β) := (x, y) :: delA L x
section pure
variable {α β : Type}
theorem getA_some {L : List (α × β)} {x : α} {y : β} (h : getA L x = some y) : (x, y) ∈ L := by
 unfold getA at h
 rw [Option.map_eq_some_iff] at h
 obtain ⟨⟨a, b⟩, h1, rfl⟩ := h
 have := List.find?_some h1
 simp only [decide_eq_true_eq] at this
 subst this
 exact List.mem_of_find?_eq_some h1
theorem getA_none {L : List (α × β)} {x : α} (h : getA L x = none) : ∀ p ∈ L, p.1 ≠ x := by
 unfold getA at h
 rw [Option.map_eq_none_iff, List.find?_eq_none] at h
 intro p hp e
 exact h p hp (by simpa using e)
theorem getA_mem {L : List (α × β)} (hn : L.Pairwise fun p q => p.1 ≠ q.1) {x : α} {y : β} (h : (x, y) ∈ L) : getA L x = some y := by
 cases e : getA L x with
 | none => exact absurd rfl (getA_none e _ h)
 | some z =>
  have hz := getA_some e
  have : ∀ {l : List (α × β)}, (l.Pairwise fun p q => p.1 ≠ q.1) → ∀ {y z : β}, (x, y) ∈ l → (x, z) ∈ l → y = z := by
   intro l
   induction l with
   | nil => intro _ y z h; cases h
   | cons a r ih =>
    intro hp y z h1 h2
    obtain ⟨p1, p2⟩ := List.pairwise_cons.1 hp
    rcases List.mem_cons.1 h1 with e1 | h1
    ·rcases List.mem_cons.1 h2 with e2 | h2
     ·rw [← e1] at e2; exact (Prod.mk.inj e2).2.symm
     ·exact absurd (by rw [← e1]) (p1 _ h2)
    ·rcases List.mem_cons.1 h2 with e2 | h2
     ·exact absurd (by rw [← e2]) (p1 _ h1)
     ·exact ih p2 h1 h2
  rw [this hn h hz]
theorem delA_keys {L : List (α × β)} (x : α) : ∀ p ∈ delA L x, p.1 ≠ x := fun p hp => by
 have := (List.mem_filter.1 hp).2
 simpa using this
theorem putA_nodup {L : List (α × β)} (hn : L.Pairwise fun p q => p.1 ≠ q.1) (x : α) (y : β) : (putA L x y).Pairwise fun p q => p.1 ≠ q.1 :=
 List.pairwise_cons.2 ⟨fun p hp e => delA_keys x p hp e.symm, hn.filter _⟩
open Classical in
theorem getA_put (L : List (α × β)) (x z : α) (y : β) : getA (putA L x y) z = if z = x then some y else getA L z := by
 unfold getA putA delA
 by_cases e : z = x
 ·subst e; simp
 ·have e' : ¬ x = z := fun h => e h.symm
  rw [List.find?_cons_of_neg (by simpa using e'), if_neg e, List.find?_filter]
  congr 2
  funext p
  by_cases h : p.1 = z
  ·simp [h, e]
  ·simp [h]
end pure
variable {P : Program} {k : TypeId} {α β : Type}
/-- a datum is the list of pairs, in whatever order -/
def MapKd.Rep (M : MapKd P k α β) (D : DataW Value) (L : List (α × β)) : Prop :=
 (L.Pairwise fun p q => p.1 ≠ q.1) ∧ (∀ p ∈ L, M.good p.1) ∧ ∃ es, D = .map es ∧ es.Perm (L.map fun p => (M.lK p.1, DataW.held (M.eV p.2)))
/-- block b is a map that holds the pairs L -/
def MapKd.own (M : MapKd P k α β) (w : World) (b n : Nat) (L : List (α × β)) : Prop := ∃ D, w.ownsMap P k rdV b n D ∧ M.Rep D L
section rep
variable {M : MapKd P k α β} {D : DataW Value} {L : List (α × β)}
theorem MapKd.Rep.apart (h : M.Rep D L) : ∃ es, D = .map es ∧ es.Pairwise (fun p q => p.1 ≠ q.1) ∧ es.Perm (L.map fun p => (M.lK p.1, DataW.held (M.eV p.2))) := by
 obtain ⟨h1, h2, es, rfl, h3⟩ := h
 refine ⟨es, rfl, (h3.pairwise_iff (fun {_ _} h => Ne.symm h)).2 ?_, h3⟩
 rw [List.pairwise_map]
 refine List.Pairwise.imp_of_mem ?_ h1
 intro p q hp hq hne e
 exact hne (M.inj _ _ (h2 p hp) (h2 q hq) e)
theorem MapKd.Rep.at_some (h : M.Rep D L) {x : α} {y : β} (hx : getA L x = some y) (z : DataW Value) : D.atKey (M.lK x) z = .held (M.eV y) := by
 have hm := getA_some hx
 obtain ⟨es, rfl, ha, hp⟩ := h.apart
 exact WideAt.atKey_mem z (M.law.key (M.key x (h.2.1 _ hm))) ha (hp.mem_iff.2 (List.mem_map.2 ⟨_, hm, rfl⟩))
theorem MapKd.Rep.has_none (h : M.Rep D L) {x : α} (g : M.good x) (hx : getA L x = none) : Maps.has D (M.lK x) = false := by
 obtain ⟨_, h2, es, rfl, hp⟩ := h
 cases e : Maps.has (.map es) (M.lK x)
 ·rfl
 ·obtain ⟨p, hpm, hs⟩ := List.any_eq_true.1 (show es.any (fun p => p.1.sameKey (M.lK x)) = true from e)
  obtain ⟨q, hq, rfl⟩ := List.mem_map.1 (hp.mem_iff.1 hpm)
  exact absurd (M.inj _ _ (h2 q hq) g (WideAt.sameKey_eq hs)) (getA_none hx q hq)
theorem MapKd.Rep.size (h : M.Rep D L) : Maps.size D = L.length := by
 obtain ⟨_, _, es, rfl, hp⟩ := h
 show es.length = _
 rw [hp.length_eq, List.length_map]
open Classical in
theorem filter_keys (M : MapKd P k α β) {L : List (α × β)} (h2 : ∀ p ∈ L, M.good p.1) {x : α} (g : M.good x) :
  (L.map fun p => (M.lK p.1, (DataW.held (M.eV p.2) : DataW Value))).filter (fun p => !p.1.sameKey (M.lK x)) = (delA L x).map fun p => (M.lK p.1, DataW.held (M.eV p.2)) := by
 rw [List.filter_map]
 congr 1
 refine List.filter_congr (fun p hp => ?_)
 show (!(M.lK p.1).sameKey (M.lK x)) = decide (p.1 ≠ x)
 by_cases e : p.1 = x
 ·rw [e, WideAt.sameKey_self (M.law.key (M.key x g))]; simp
 ·rw [sameKey_ne (fun q => e (M.inj _ _ (h2 p hp) g q))]; simp [e]
theorem MapKd.Rep.put (h : M.Rep D L) {x : α} (g : M.good x) (y : β) : M.Rep (D.put (M.lK x) (.held (M.eV y))) (putA L x y) := by
 obtain ⟨h1, h2, es, rfl, hp⟩ := h
 refine ⟨putA_nodup h1 x y, fun p hp => ?_, _, rfl, ?_⟩
 ·rcases List.mem_cons.1 hp with rfl | hp
  ·exact g
  ·exact h2 p ((List.mem_filter.1 hp).1)
 ·refine (insert_perm _ _).trans ?_
  rw [show putA L x y = (x, y) :: delA L x from rfl, List.map_cons]
  refine List.Perm.cons _ ?_
  rw [← filter_keys M h2 g]
  exact hp.filter _
end rep
section own
variable {M : MapKd P k α β} {w : World} {b n : Nat} {L : List (α × β)}
theorem MapKd.own_made (M : MapKd P k α β) (w : World) : M.own (w.alloc (.map #[] 0)) w.heap.size 0 [] :=
 ⟨.map [], World.ownsMap_made w P k rdV, List.Pairwise.nil, fun _ h => (List.not_mem_nil h).elim, [], rfl, List.Perm.refl _⟩
theorem MapKd.own_kept {w' : World} {row : Option Nat} (h : M.own w b n L) (hg : w.grownBy w' row) (hne : some b ≠ row) : M.own w' b n L := let ⟨D, h1, h2⟩ := h; ⟨D, h1.kept hg hne, h2⟩
theorem MapKd.own_alloc (h : M.own w b n L) (o : Obj) : M.own (w.alloc o) b n L := let ⟨D, h1, h2⟩ := h; ⟨D, h1.alloc o, h2⟩
theorem MapKd.own_same {w' : World} (h : M.own w b n L) (e : w'.heap[b]? = w.heap[b]?) : M.own w' b n L := by
 obtain ⟨D, ⟨es, clock, hb, r⟩, h2⟩ := h
 exact ⟨D, ⟨es, clock, e.trans hb, r⟩, h2⟩
theorem MapKd.own_lt (h : M.own w b n L) : b < w.heap.size := let ⟨_, h1, _⟩ := h; h1.lt
theorem MapKd.own_below {w' : World} (h : M.own w b n L) (hb : Below w.heap.size w w') : M.own w' b n L := MapKd.own_same h (hb.block b (MapKd.own_lt h))
theorem MapKd.own_mono (h : M.own w b n L) {n' : Nat} (hn : n ≤ n') : M.own w b n' L := let ⟨D, h1, h2⟩ := h; ⟨D, h1.mono hn, h2⟩
theorem MapKd.own_nodup (h : M.own w b n L) : L.Pairwise fun p q => p.1 ≠ q.1 := let ⟨_, _, h2⟩ := h; h2.1
theorem MapKd.own_is (h : M.own w b n L) : ∃ es c, w.heap[b]? = some (.map es c) := by
 obtain ⟨D, ⟨es, clock, hb, _⟩, _⟩ := h
 exact ⟨es, clock, hb⟩
end own
section rng
variable {M : MapKd P k α β} {w : World} {b r n : Nat} {L done : List (α × β)}
end rng
section ops
variable (w : World) {ops : Array Oper} {rest : List Oper} {o : Oper} {a : Act} {Q : Exit → Act → World → Prop}
/-- 'm[k] = v' -/
theorem wpList_update_om (M : MapKd P k α β) (hg : o.guard = none) (m x v : Operand) (t : TypeId) (hop : o.op = Op.mapUpdate t m x v)
  (e : TypeId) (ht : P.underlying t = some (.map k e)) (b n : Nat) (L : List (α × β))
  (hm : a.eval m = .map (some b)) (hown : M.own w b n L) (hn : n < maxLen) (key : α) (val : β) (hx : a.eval x = M.eK key) (hv : a.eval v = M.eV val) (hgd : M.good key)
  (hK : ∀ w', M.own w' b (n + 1) (putA L key val) → w.grownBy w' (some b) → w.heap.size = w'.heap.size → wpList P ops Q rest (a.put o.dst undef) w') :
  wpList P ops Q (o :: rest) a w := by
 obtain ⟨D, h1, h2⟩ := hown
 refine wpList_plain hg fun K' hK' => ?_
 obtain ⟨w', hrun, r1, r2⟩ := h1.store M.law ht hn (M.key key hgd) (show rdV (M.eV val) = some (.held (M.eV val), []) from rfl)
 unfold Oper.wp
 simp [execOp, hop, hm, hx, hv, hrun, Result.andThen]
 have hs : w.heap.size = w'.heap.size := by
  obtain ⟨_, _, es', c', _, rfl⟩ := r2
  simp [ChangeMaps.setBlock]
 exact hK' _ _ (hK w' ⟨_, r1, h2.put hgd val⟩ r2.grown hs)
end ops
end Go.Proofs.Ytlhodfjdmafapaa
end
section
namespace Go.Proofs.Ytlhodfjdmafapaa
open Go.RowKit
def inB (lo hi n : Int) : Bool := decide (lo ≤ n) && decide (n ≤ hi)
theorem inB_t {lo hi n : Int} (h1 : lo ≤ n) : inB lo hi n = decide (n ≤ hi) := by simp [inB, h1]
theorem inB_f {lo hi n : Int} (h1 : n < lo) : inB lo hi n = false := by simp [inB]; omega
theorem inB_iff {lo hi n : Int} : inB lo hi n = true ↔ lo ≤ n ∧ n ≤ hi := by simp [inB]
@[simp] theorem lt_two (n : Nat) : n < n + 1 + 1 := by omega
@[simp] theorem lt_three (n : Nat) : n < n + 1 + 1 + 1 := by omega
@[simp] theorem lt_four (n : Nat) : n < n + 1 + 1 + 1 + 1 := by omega
/-- three cells of int, four, six -/
abbrev A3 (g : Nat → Int) : Value := .agg #[.int .i64 (g 0), .int .i64 (g 1), .int .i64 (g 2)]
abbrev A4 (g : Nat → Int) : Value := .agg #[.int .i64 (g 0), .int .i64 (g 1), .int .i64 (g 2), .int .i64 (g 3)]
abbrev A6 (g : Nat → Int) : Value := .agg #[.int .i64 (g 0), .int .i64 (g 1), .int .i64 (g 2), .int .i64 (g 3), .int .i64 (g 4), .int .i64 (g 5)]
theorem ret_bool {a b : Bool} (h : a = b) : Ending.returned (.bool a) = .returned (.bool b) := by rw [h]
theorem ret_int {a b : Int} (h : a = b) : Ending.returned (.int .i64 a) = .returned (.int .i64 b) := by rw [h]
theorem bcell {W w1 : World} (hb : Below W.heap.size W w1) : (∀ b o, b < W.heap.size → w1.cell? ⟨b, o, none⟩ = W.cell? ⟨b, o, none⟩) ∧ (∀ b o, b < W.heap.size → w1.frozen? ⟨b, o, none⟩ = W.frozen? ⟨b, o, none⟩) :=
 ⟨fun b o h => hb.cell (p := ⟨b, o, none⟩) h, fun b o h => hb.frozen (p := ⟨b, o, none⟩) h⟩
theorem bl_alloc {B : Nat} {a w : World} (o : Obj) (hB : B ≤ w.heap.size) (h : Below B a w) : Below B a (w.alloc o) := h.alloc hB o
theorem bl_set {B : Nat} {a w : World} {p : Addr} (u : Value) (hp : B ≤ p.block) (h : Below B a w) : Below B a (w.setCell p u) := h.setCell hp u
theorem bl_drewN {B : Nat} {a w : World} (n : Nat) (h : Below B a w) : Below B a (w.drewN n) := ⟨h.os, h.tape, h.output, h.size, h.block⟩
theorem quiet_add_left {P : Program} {f : FuncId} {args : Array Value} {w : World} {a n : Nat} {v : Value}
  (h : Calls P f args (w.drewN (a + n)) fun e w' => e = .returned v ∧ w.drewN (a + n) = w') :
  Calls P f args (w.drewN (a + n)) fun e w'' => e = .returned v ∧ ∃ m, w'' = w.drewN (a + m) :=
 h.mono fun _ _ ⟨he, hm⟩ => ⟨he, n, hm.symm⟩
theorem quiet_left {P : Program} {f : FuncId} {args : Array Value} {w : World} {n : Nat} {v : Value}
  (h : Calls P f args (w.drewN n) fun e w' => e = .returned v ∧ w.drewN n = w') : Calls P f args (w.drewN n) fun e w'' => e = .returned v ∧ ∃ m, w'' = w.drewN m :=
 h.mono fun _ _ ⟨he, hm⟩ => ⟨he, n, hm.symm⟩
/-- the kit is valid -/
def isKitB (g : Nat → Int) : Bool := (inB 0 30 (g 0) && inB 0 30 (g 1) && inB 0 30 (g 2) && inB 0 30 (g 3)) && (decide (0 < g 0) || decide (0 < g 1) || decide (0 < g 2) || decide (0 < g 3))
/-- each sand lies within its glass -/
def isSandB (k s : Nat → Int) : Bool := inB 0 (k 0) (s 0) && inB 0 (k 1) (s 1) && inB 0 (k 2) (s 2) && inB 0 (k 3) (s 3)
/-- the set of all places that hold something -/
def allOf (g : Nat → Int) : Int := (if 0 < g 0 then 1 else 0) + (if 0 < g 1 then 2 else 0) + (if 0 < g 2 then 4 else 0) + (if 0 < g 3 then 8 else 0)
/-- a cell that is there is there behind a call that turns nothing that was there, behind a new block, behind a draw -/
theorem keep_below {W w1 : World} {a : Addr} {v : Value} (hb : Below W.heap.size W w1) (h : W.cell? a = some v) : w1.cell? a = some v :=
 (hb.cell (World.block_lt_of_cell? W a h)).trans h
theorem there {W : World} {a : Addr} {v : Value} (h : W.cell? a = some v) : a.block < W.heap.size := World.block_lt_of_cell? W a h
theorem below_chain {w W w1 : World} (h : Below w.heap.size w W) (hb : Below W.heap.size W w1) : Below w.heap.size w w1 := h.trans (hb.mono h.size)
/-- a number is a set of glasses of a kit -/
def isSetB (k : Nat → Int) (set : Int) : Bool := inB 0 15 set && (bits BinOp.andNot IntKind.i64 set (allOf k) == 0)
/-- the four tests on a set, as the code makes them -/
def tb (set : Int) : Nat → Bool
 | 0 => bits BinOp.and IntKind.i64 set 1 == 1
 | 1 => bits BinOp.and IntKind.i64 (set / 2) 1 == 1
 | 2 => bits BinOp.and IntKind.i64 (set / 4) 1 == 1
 | _ => bits BinOp.and IntKind.i64 (set / 8) 1 == 1
def turnF (k s : Nat → Int) (set : Int) : Nat → Int := fun i => if tb set i = true then k i - s i else s i
def passF (s : Nat → Int) (d : Int) : Nat → Int := fun i => max (s i - d) 0
def nx (l n : Int) : Int := if 0 < n ∧ (l = 0 ∨ n < l) then n else l
def nextTo (s : Nat → Int) : Nat → Int
 | 0 => 0
 | j + 1 => nx (nextTo s j) (s j)
def nextF (s : Nat → Int) : Int := nextTo s 4
def stepD (k s : Nat → Int) (set : Int) : Int := nextF (turnF k s set)
def stepS (k s : Nat → Int) (set : Int) : Nat → Int := passF (turnF k s set) (stepD k s set)
/-- sand of a kit, both within their bounds -/
structure Sand (k s : Nat → Int) : Prop where
 lo : ∀ i, i < 4 → 0 ≤ s i
 hi : ∀ i, i < 4 → s i ≤ k i
 top : ∀ i, i < 4 → k i ≤ 30
theorem four {p : Nat → Prop} (h0 : p 0) (h1 : p 1) (h2 : p 2) (h3 : p 3) : ∀ i, i < 4 → p i := by
 intro i hi
 obtain rfl | rfl | rfl | rfl : i = 0 ∨ i = 1 ∨ i = 2 ∨ i = 3 := by omega
 all_goals assumption
theorem kit_bounds {k : Nat → Int} (h : isKitB k = true) : ∀ i, i < 4 → 0 ≤ k i ∧ k i ≤ 30 := by
 simp only [isKitB, Bool.and_eq_true, inB_iff] at h
 exact four h.1.1.1.1 h.1.1.1.2 h.1.1.2 h.1.2
theorem sand_of {k s : Nat → Int} (h : isKitB k = true) (h2 : isSandB k s = true) : Sand k s := by
 have hb := kit_bounds h
 simp only [isSandB, Bool.and_eq_true, inB_iff] at h2
 exact ⟨four h2.1.1.1.1 h2.1.1.2.1 h2.1.2.1 h2.2.1, four h2.1.1.1.2 h2.1.1.2.2 h2.1.2.2 h2.2.2, fun i hi => (hb i hi).2⟩
theorem Sand.turn {k s : Nat → Int} (h : Sand k s) (set : Int) : Sand k (turnF k s set) := by
 refine ⟨fun i hi => ?_, fun i hi => ?_, h.top⟩ <;> have h1 := h.lo i hi <;> have h2 := h.hi i hi <;> unfold turnF <;> split <;> omega
theorem Sand.pass {k s : Nat → Int} (h : Sand k s) {d : Int} (hd : 0 ≤ d) : Sand k (passF s d) := by
 refine ⟨fun i hi => ?_, fun i hi => ?_, h.top⟩ <;> have h1 := h.lo i hi <;> have h2 := h.hi i hi <;> unfold passF <;> omega
theorem nx_b {l n : Int} (hl : 0 ≤ l ∧ l ≤ 30) (h1 : n ≤ 30) : 0 ≤ nx l n ∧ nx l n ≤ 30 := by
 unfold nx; split <;> omega
theorem Sand.next {k s : Nat → Int} (h : Sand k s) : 0 ≤ nextF s ∧ nextF s ≤ 30 := by
 have t : ∀ i, i < 4 → s i ≤ 30 := fun i hi => by have := h.hi i hi; have := h.top i hi; omega
 exact nx_b (nx_b (nx_b (nx_b ⟨Int.le_refl 0, by simp [nextTo]⟩ (t 0 (by omega))) (t 1 (by omega))) (t 2 (by omega))) (t 3 (by omega))
theorem Sand.step {k s : Nat → Int} (h : Sand k s) (set : Int) : Sand k (stepS k s set) := (h.turn set).pass (h.turn set).next.1
theorem Sand.stepD {k s : Nat → Int} (h : Sand k s) (set : Int) : 0 ≤ stepD k s set ∧ stepD k s set ≤ 30 := (h.turn set).next
end Go.Proofs.Ytlhodfjdmafapaa
end
section
namespace Go.Proofs.Ytlhodfjdmafapaa
open Go.RowKit
set_option linter.unusedVariables false
theorem within_any (n lo hi : Int) (w : World) : Calls Try.prog 64 #[.int .i64 n, .int .i64 lo, .int .i64 hi] w fun e w' => e = .returned (.bool (inB lo hi n)) ∧ w = w' := by
 go_enter Try.func64, Try.ntmps64
 go_wp2
 ·go_ret
  exact ⟨by rw [inB_t ‹_›]; rfl, rfl⟩
 ·go_ret
  exact ⟨by rw [inB_f ‹_›]; rfl, rfl⟩
theorem l1In_any (n lo hi : Int) (w : World) : Calls Try.prog 59 #[.int .i64 n, .int .i64 lo, .int .i64 hi] w fun e w' => e = .returned (.bool (inB lo hi n)) ∧ w = w' := by
 go_enter Try.func59, Try.ntmps59
 go_wp2
 ·go_ret
  exact ⟨by rw [inB_t ‹_›]; rfl, rfl⟩
 ·go_ret
  exact ⟨by rw [inB_f ‹_›]; rfl, rfl⟩
theorem toIntA4_any (g : Nat → Int) (w : World) : Calls Try.prog 18 #[A4 g] w fun e w' => e = .returned (A4 g) ∧ Below w.heap.size w w' := by
 go_enter Try.func18, Try.ntmps18
 go_wp2
 refine wp_loop_rounds 5 ?_
 go_wp2_with (first | (rw [rounds_succ]))
 refine bodyPost_ret (v := A4 g) (by simp [results, Try.results18, go_sem]) rfl ⟨rfl, by (repeat first | (with_reducible assumption) | (with_reducible exact Below.refl _ _) | ((with_reducible refine bl_alloc _ ?_ ?_); focus (first | (simp; done) | (simp; omega) | omega)) | ((with_reducible refine bl_set _ ?_ ?_); focus (first | (simp; done) | (simp; omega) | omega)) | (with_reducible refine Below.drew ?_) | (with_reducible refine bl_drewN _ ?_))⟩
theorem toKit_any (g : Nat → Int) (w : World) : Calls Try.prog 15 #[A4 g] w fun e w' => e = .returned (A4 g) ∧ Below w.heap.size w w' := by
 go_enter Try.func15, Try.ntmps15
 go_wp2_with (first | (go_at_call 18; refine (toIntA4_any g _).mono ?_; rintro e w' ⟨rfl, hb⟩; have hB : Below w.heap.size w w' := Below.trans (by (repeat first | (with_reducible assumption) | (with_reducible exact Below.refl _ _) | ((with_reducible refine bl_alloc _ ?_ ?_); focus (first | (simp; done) | (simp; omega) | omega)) | ((with_reducible refine bl_set _ ?_ ?_); focus (first | (simp; done) | (simp; omega) | omega)) | (with_reducible refine Below.drew ?_) | (with_reducible refine bl_drewN _ ?_))) (hb.mono (by first | (simp; done) | (simp; omega) | omega)); obtain ⟨hc, hf⟩ := bcell hb; have hz := hb.size; (try simp at hz); (try have hy0 : w.heap.size < w'.heap.size := by omega); (try have hy1 : w.heap.size + 1 < w'.heap.size := by omega); (try have hy2 : w.heap.size + 1 + 1 < w'.heap.size := by omega); (try have hy3 : w.heap.size + 1 + 1 + 1 < w'.heap.size := by omega); clear hb))
 refine bodyPost_ret (v := A4 g) (by simp [results, Try.results15, go_sem, hc]) rfl ⟨rfl, by (repeat first | (with_reducible assumption) | (with_reducible exact Below.refl _ _) | ((with_reducible refine bl_alloc _ ?_ ?_); focus (first | (simp; done) | (simp; omega) | omega)) | ((with_reducible refine bl_set _ ?_ ?_); focus (first | (simp; done) | (simp; omega) | omega)) | (with_reducible refine Below.drew ?_) | (with_reducible refine bl_drewN _ ?_))⟩
theorem isKit_any (g : Nat → Int) (w : World) : Calls Try.prog 88 #[A4 g] w fun e w' => e = .returned (.bool (isKitB g)) ∧ Below w.heap.size w w' := by
 have i0 : ∀ w : World, (Instr.index 22 (A4 g) (.int .i64 0)).run Try.prog w = .ok (.int .i64 (g 0)) w := fun _ => by kernel_rfl
 have i1 : ∀ w : World, (Instr.index 22 (A4 g) (.int .i64 1)).run Try.prog w = .ok (.int .i64 (g 1)) w := fun _ => by kernel_rfl
 have i2 : ∀ w : World, (Instr.index 22 (A4 g) (.int .i64 2)).run Try.prog w = .ok (.int .i64 (g 2)) w := fun _ => by kernel_rfl
 have i3 : ∀ w : World, (Instr.index 22 (A4 g) (.int .i64 3)).run Try.prog w = .ok (.int .i64 (g 3)) w := fun _ => by kernel_rfl
 go_enter Try.func88, Try.ntmps88
 go_wp2_with fail
 refine wp_loop_rounds 5 ?_
 go_wp2_with (first | (rw [rounds_succ]) | (go_at_call 64; refine (within_any _ _ _ _).mono ?_; rintro e w' ⟨rfl, rfl⟩))
 all_goals (go_ret; exact ⟨ret_bool (by simp_all [isKitB]), by (repeat first | (with_reducible assumption) | (with_reducible exact Below.refl _ _) | ((with_reducible refine bl_alloc _ ?_ ?_); focus (first | (simp; done) | (simp; omega) | omega)) | ((with_reducible refine bl_set _ ?_ ?_); focus (first | (simp; done) | (simp; omega) | omega)) | (with_reducible refine Below.drew ?_) | (with_reducible refine bl_drewN _ ?_))⟩)
theorem l2Kit_any (g : Nat → Int) (w : World) : Calls Try.prog 76 #[A4 g] w fun e w' => e = .returned (.bool (isKitB g)) ∧ Below w.heap.size w w' := by
 go_enter Try.func76, Try.ntmps76
 go_wp2_with fail
 refine wp_loop_rounds 5 ?_
 go_wp2_with (first | (rw [rounds_succ]) | (go_at_call 59; refine (l1In_any _ _ _ _).mono ?_; rintro e w' ⟨rfl, rfl⟩))
 all_goals (go_ret; exact ⟨ret_bool (by simp_all [isKitB]), by (repeat first | (with_reducible assumption) | (with_reducible exact Below.refl _ _) | ((with_reducible refine bl_alloc _ ?_ ?_); focus (first | (simp; done) | (simp; omega) | omega)) | ((with_reducible refine bl_set _ ?_ ?_); focus (first | (simp; done) | (simp; omega) | omega)) | (with_reducible refine Below.drew ?_) | (with_reducible refine bl_drewN _ ?_))⟩)
theorem isSand_any (k s : Nat → Int) (w : World) : Calls Try.prog 89 #[A4 k, A4 s] w fun e w' => e = .returned (.bool (isSandB k s)) ∧ Below w.heap.size w w' := by
 have i0 : ∀ w : World, (Instr.index 22 (A4 s) (.int .i64 0)).run Try.prog w = .ok (.int .i64 (s 0)) w := fun _ => by kernel_rfl
 have i1 : ∀ w : World, (Instr.index 22 (A4 s) (.int .i64 1)).run Try.prog w = .ok (.int .i64 (s 1)) w := fun _ => by kernel_rfl
 have i2 : ∀ w : World, (Instr.index 22 (A4 s) (.int .i64 2)).run Try.prog w = .ok (.int .i64 (s 2)) w := fun _ => by kernel_rfl
 have i3 : ∀ w : World, (Instr.index 22 (A4 s) (.int .i64 3)).run Try.prog w = .ok (.int .i64 (s 3)) w := fun _ => by kernel_rfl
 go_enter Try.func89, Try.ntmps89
 go_wp2_with fail
 refine wp_loop_rounds 5 ?_
 go_wp2_with (first | (rw [rounds_succ]) | (go_at_call 64; refine (within_any _ _ _ _).mono ?_; rintro e w' ⟨rfl, rfl⟩))
 all_goals (go_ret; exact ⟨ret_bool (by simp_all [isSandB]), by (repeat first | (with_reducible assumption) | (with_reducible exact Below.refl _ _) | ((with_reducible refine bl_alloc _ ?_ ?_); focus (first | (simp; done) | (simp; omega) | omega)) | ((with_reducible refine bl_set _ ?_ ?_); focus (first | (simp; done) | (simp; omega) | omega)) | (with_reducible refine Below.drew ?_) | (with_reducible refine bl_drewN _ ?_))⟩)
theorem l2Sand_any (k s : Nat → Int) (w : World) : Calls Try.prog 49 #[A4 k, A4 s] w fun e w' => e = .returned (.bool (isSandB k s && isKitB k)) ∧ Below w.heap.size w w' := by
 go_enter Try.func49, Try.ntmps49
 go_wp2_with fail
 refine wp_loop_rounds 5 ?_
 go_wp2_with (first | (rw [rounds_succ]) | (go_quiet ((first | (go_at_call 59; first | exact quiet_left (l1In_any _ _ _ _) | exact quiet_add_left (l1In_any _ _ _ _))))) | (go_at_call 76; refine (l2Kit_any k _).mono ?_; rintro e w' ⟨rfl, hb⟩; have hB : Below w.heap.size w w' := Below.trans (by (repeat first | (with_reducible assumption) | (with_reducible exact Below.refl _ _) | ((with_reducible refine bl_alloc _ ?_ ?_); focus (first | (simp; done) | (simp; omega) | omega)) | ((with_reducible refine bl_set _ ?_ ?_); focus (first | (simp; done) | (simp; omega) | omega)) | (with_reducible refine Below.drew ?_) | (with_reducible refine bl_drewN _ ?_))) (hb.mono (by first | (simp; done) | (simp; omega) | omega)); obtain ⟨hc, hf⟩ := bcell hb; have hz := hb.size; (try simp at hz); (try have hy0 : w.heap.size < w'.heap.size := by omega); (try have hy1 : w.heap.size + 1 < w'.heap.size := by omega); (try have hy2 : w.heap.size + 1 + 1 < w'.heap.size := by omega); (try have hy3 : w.heap.size + 1 + 1 + 1 < w'.heap.size := by omega); clear hb))
 all_goals (go_ret; exact ⟨ret_bool (by simp_all [isSandB]), by (repeat first | (with_reducible assumption) | (with_reducible exact Below.refl _ _) | ((with_reducible refine bl_alloc _ ?_ ?_); focus (first | (simp; done) | (simp; omega) | omega)) | ((with_reducible refine bl_set _ ?_ ?_); focus (first | (simp; done) | (simp; omega) | omega)) | (with_reducible refine Below.drew ?_) | (with_reducible refine bl_drewN _ ?_))⟩)
theorem all_any (g : Nat → Int) (w : World) : Calls Try.prog 104 #[A4 g] w fun e w' => e = .returned (.int .i64 (allOf g)) ∧ Below w.heap.size w w' := by
 have i0 : ∀ w : World, (Instr.index 22 (A4 g) (.int .i64 0)).run Try.prog w = .ok (.int .i64 (g 0)) w := fun _ => by kernel_rfl
 have i1 : ∀ w : World, (Instr.index 22 (A4 g) (.int .i64 1)).run Try.prog w = .ok (.int .i64 (g 1)) w := fun _ => by kernel_rfl
 have i2 : ∀ w : World, (Instr.index 22 (A4 g) (.int .i64 2)).run Try.prog w = .ok (.int .i64 (g 2)) w := fun _ => by kernel_rfl
 have i3 : ∀ w : World, (Instr.index 22 (A4 g) (.int .i64 3)).run Try.prog w = .ok (.int .i64 (g 3)) w := fun _ => by kernel_rfl
 go_enter Try.func104, Try.ntmps104
 go_wp2_with fail
 refine wp_loop_rounds 5 ?_
 go_wp2_with (first | (rw [rounds_succ]))
 all_goals (go_ret; exact ⟨ret_int (by unfold allOf; (iterate 4 (first | rw [if_pos (by assumption)] | rw [if_neg (by omega)])); try first | rfl | decide), by (repeat first | (with_reducible assumption) | (with_reducible exact Below.refl _ _) | ((with_reducible refine bl_alloc _ ?_ ?_); focus (first | (simp; done) | (simp; omega) | omega)) | ((with_reducible refine bl_set _ ?_ ?_); focus (first | (simp; done) | (simp; omega) | omega)) | (with_reducible refine Below.drew ?_) | (with_reducible refine bl_drewN _ ?_))⟩)
theorem l2All_any (g : Nat → Int) (w : World) : Calls Try.prog 86 #[A4 g] w fun e w' => e = .returned (.int .i64 (allOf g)) ∧ Below w.heap.size w w' := by
 go_enter Try.func86, Try.ntmps86
 go_wp2_with fail
 refine wp_loop_rounds 5 ?_
 go_wp2_with (first | (rw [rounds_succ]))
 all_goals (go_ret; exact ⟨ret_int (by unfold allOf; (iterate 4 (first | rw [if_pos (by assumption)] | rw [if_neg (by omega)])); try first | rfl | decide), by (repeat first | (with_reducible assumption) | (with_reducible exact Below.refl _ _) | ((with_reducible refine bl_alloc _ ?_ ?_); focus (first | (simp; done) | (simp; omega) | omega)) | ((with_reducible refine bl_set _ ?_ ?_); focus (first | (simp; done) | (simp; omega) | omega)) | (with_reducible refine Below.drew ?_) | (with_reducible refine bl_drewN _ ?_))⟩)
end Go.Proofs.Ytlhodfjdmafapaa
end
section
namespace Go.Proofs.Ytlhodfjdmafapaa
open Go.RowKit
set_option linter.unusedVariables false
set_option maxHeartbeats 1600000 in
theorem turn_any (k s : Nat → Int) (set : Int) (hs : Sand k s) (w : World) : Calls Try.prog 91 #[A4 k, A4 s, .int .i64 set] w fun e w' => e = .returned (A4 (turnF k s set)) ∧ Below w.heap.size w w' := by
 obtain ⟨hlo, hhi, htop⟩ := hs
 have lo0 := hlo 0 (by omega)
 have hi0 := hhi 0 (by omega)
 have tp0 := htop 0 (by omega)
 have lo1 := hlo 1 (by omega)
 have hi1 := hhi 1 (by omega)
 have tp1 := htop 1 (by omega)
 have lo2 := hlo 2 (by omega)
 have hi2 := hhi 2 (by omega)
 have tp2 := htop 2 (by omega)
 have lo3 := hlo 3 (by omega)
 have hi3 := hhi 3 (by omega)
 have tp3 := htop 3 (by omega)
 clear hlo hhi htop
 have i0 : ∀ w : World, (Instr.index 22 (A4 k) (.int .i64 0)).run Try.prog w = .ok (.int .i64 (k 0)) w := fun _ => by kernel_rfl
 have i1 : ∀ w : World, (Instr.index 22 (A4 k) (.int .i64 1)).run Try.prog w = .ok (.int .i64 (k 1)) w := fun _ => by kernel_rfl
 have i2 : ∀ w : World, (Instr.index 22 (A4 k) (.int .i64 2)).run Try.prog w = .ok (.int .i64 (k 2)) w := fun _ => by kernel_rfl
 have i3 : ∀ w : World, (Instr.index 22 (A4 k) (.int .i64 3)).run Try.prog w = .ok (.int .i64 (k 3)) w := fun _ => by kernel_rfl
 cases t0 : (bits BinOp.and IntKind.i64 set 1 == 1) <;> cases t1 : (bits BinOp.and IntKind.i64 (set / 2) 1 == 1) <;> cases t2 : (bits BinOp.and IntKind.i64 (set / 4) 1 == 1) <;> cases t3 : (bits BinOp.and IntKind.i64 (set / 8) 1 == 1)
 all_goals
  go_enter Try.func91, Try.ntmps91
  go_wp2_with fail
  refine wp_loop_rounds 5 ?_
  go_wp2_with (first | (rw [rounds_succ]))
  refine bodyPost_ret (v := A4 (turnF k s set)) (by simp [results, Try.results91, go_sem, turnF, tb, t0, t1, t2, t3]) rfl ⟨rfl, by (repeat first | (with_reducible assumption) | (with_reducible exact Below.refl _ _) | ((with_reducible refine bl_alloc _ ?_ ?_); focus (first | (simp; done) | (simp; omega) | omega)) | ((with_reducible refine bl_set _ ?_ ?_); focus (first | (simp; done) | (simp; omega) | omega)) | (with_reducible refine Below.drew ?_) | (with_reducible refine bl_drewN _ ?_))⟩
set_option maxHeartbeats 1600000 in
theorem l2Turn_any (k s : Nat → Int) (set : Int) (hs : Sand k s) (w : World) : Calls Try.prog 83 #[A4 k, A4 s, .int .i64 set] w fun e w' => e = .returned (A4 (turnF k s set)) ∧ Below w.heap.size w w' := by
 obtain ⟨hlo, hhi, htop⟩ := hs
 have lo0 := hlo 0 (by omega)
 have hi0 := hhi 0 (by omega)
 have tp0 := htop 0 (by omega)
 have lo1 := hlo 1 (by omega)
 have hi1 := hhi 1 (by omega)
 have tp1 := htop 1 (by omega)
 have lo2 := hlo 2 (by omega)
 have hi2 := hhi 2 (by omega)
 have tp2 := htop 2 (by omega)
 have lo3 := hlo 3 (by omega)
 have hi3 := hhi 3 (by omega)
 have tp3 := htop 3 (by omega)
 clear hlo hhi htop
 cases t0 : (bits BinOp.and IntKind.i64 set 1 == 1) <;> cases t1 : (bits BinOp.and IntKind.i64 (set / 2) 1 == 1) <;> cases t2 : (bits BinOp.and IntKind.i64 (set / 4) 1 == 1) <;> cases t3 : (bits BinOp.and IntKind.i64 (set / 8) 1 == 1)
 all_goals
  go_enter Try.func83, Try.ntmps83
  go_wp2_with fail
  refine wp_loop_rounds 5 ?_
  go_wp2_with (first | (rw [rounds_succ]) | (go_region))
  refine bodyPost_ret (v := A4 (turnF k s set)) (by simp [results, Try.results83, go_sem, turnF, tb, t0, t1, t2, t3]) rfl ⟨rfl, by (repeat first | (with_reducible assumption) | (with_reducible exact Below.refl _ _) | ((with_reducible refine bl_alloc _ ?_ ?_); focus (first | (simp; done) | (simp; omega) | omega)) | ((with_reducible refine bl_set _ ?_ ?_); focus (first | (simp; done) | (simp; omega) | omega)) | (with_reducible refine Below.drew ?_) | (with_reducible refine bl_drewN _ ?_))⟩
end Go.Proofs.Ytlhodfjdmafapaa
end
section
namespace Go.Proofs.Ytlhodfjdmafapaa
open Go.RowKit
set_option linter.unusedVariables false
theorem l1Most_any (a b : Int) (w : World) : Calls Try.prog 51 #[.int .i64 a, .int .i64 b] w fun e w' => e = .returned (.int .i64 (max a b)) ∧ w = w' := by
 go_enter Try.func51, Try.ntmps51
 go_wp2
 all_goals (go_ret; exact ⟨ret_int (by show _ = max a b; omega), rfl⟩)
theorem isSet_any (k : Nat → Int) (set : Int) (w : World) : Calls Try.prog 90 #[A4 k, .int .i64 set] w fun e w' => e = .returned (.bool (isSetB k set)) ∧ Below w.heap.size w w' := by
 go_enter Try.func90, Try.ntmps90
 go_wp2_with (first | (go_at_call 64; refine (within_any _ _ _ _).mono ?_; rintro e w' ⟨rfl, rfl⟩) | (go_at_call 104; refine (all_any k _).mono ?_; rintro e w' ⟨rfl, hb⟩; have hB : Below w.heap.size w w' := Below.trans (by (repeat first | (with_reducible assumption) | (with_reducible exact Below.refl _ _) | ((with_reducible refine bl_alloc _ ?_ ?_); focus (first | (simp; done) | (simp; omega) | omega)) | ((with_reducible refine bl_set _ ?_ ?_); focus (first | (simp; done) | (simp; omega) | omega)) | (with_reducible refine Below.drew ?_) | (with_reducible refine bl_drewN _ ?_))) (hb.mono (by first | (simp; done) | (simp; omega) | omega)); obtain ⟨hc, hf⟩ := bcell hb; have hz := hb.size; (try simp at hz); (try have hy0 : w.heap.size < w'.heap.size := by omega); (try have hy1 : w.heap.size + 1 < w'.heap.size := by omega); (try have hy2 : w.heap.size + 1 + 1 < w'.heap.size := by omega); (try have hy3 : w.heap.size + 1 + 1 + 1 < w'.heap.size := by omega); clear hb))
 all_goals (go_ret; exact ⟨ret_bool (by simp_all [isSetB]), by (repeat first | (with_reducible assumption) | (with_reducible exact Below.refl _ _) | ((with_reducible refine bl_alloc _ ?_ ?_); focus (first | (simp; done) | (simp; omega) | omega)) | ((with_reducible refine bl_set _ ?_ ?_); focus (first | (simp; done) | (simp; omega) | omega)) | (with_reducible refine Below.drew ?_) | (with_reducible refine bl_drewN _ ?_))⟩)
theorem l2Set_any (k : Nat → Int) (set : Int) (w : World) : Calls Try.prog 61 #[A4 k, .int .i64 set] w fun e w' => e = .returned (.bool (isSetB k set)) ∧ Below w.heap.size w w' := by
 go_enter Try.func61, Try.ntmps61
 go_wp2_with (first | (go_at_call 59; refine (l1In_any _ _ _ _).mono ?_; rintro e w' ⟨rfl, rfl⟩) | (go_at_call 86; refine (l2All_any k _).mono ?_; rintro e w' ⟨rfl, hb⟩; have hB : Below w.heap.size w w' := Below.trans (by (repeat first | (with_reducible assumption) | (with_reducible exact Below.refl _ _) | ((with_reducible refine bl_alloc _ ?_ ?_); focus (first | (simp; done) | (simp; omega) | omega)) | ((with_reducible refine bl_set _ ?_ ?_); focus (first | (simp; done) | (simp; omega) | omega)) | (with_reducible refine Below.drew ?_) | (with_reducible refine bl_drewN _ ?_))) (hb.mono (by first | (simp; done) | (simp; omega) | omega)); obtain ⟨hc, hf⟩ := bcell hb; have hz := hb.size; (try simp at hz); (try have hy0 : w.heap.size < w'.heap.size := by omega); (try have hy1 : w.heap.size + 1 < w'.heap.size := by omega); (try have hy2 : w.heap.size + 1 + 1 < w'.heap.size := by omega); (try have hy3 : w.heap.size + 1 + 1 + 1 < w'.heap.size := by omega); clear hb))
 all_goals (go_ret; exact ⟨ret_bool (by simp_all [isSetB]), by (repeat first | (with_reducible assumption) | (with_reducible exact Below.refl _ _) | ((with_reducible refine bl_alloc _ ?_ ?_); focus (first | (simp; done) | (simp; omega) | omega)) | ((with_reducible refine bl_set _ ?_ ?_); focus (first | (simp; done) | (simp; omega) | omega)) | (with_reducible refine Below.drew ?_) | (with_reducible refine bl_drewN _ ?_))⟩)
set_option maxHeartbeats 1600000 in
theorem pass_any (k s : Nat → Int) (d : Int) (hs : Sand k s) (hd : 0 ≤ d) (w : World) : Calls Try.prog 93 #[A4 s, .int .i64 d] w fun e w' => e = .returned (A4 (passF s d)) ∧ Below w.heap.size w w' := by
 obtain ⟨hlo, hhi, htop⟩ := hs
 have lo0 := hlo 0 (by omega)
 have hi0 := hhi 0 (by omega)
 have tp0 := htop 0 (by omega)
 have lo1 := hlo 1 (by omega)
 have hi1 := hhi 1 (by omega)
 have tp1 := htop 1 (by omega)
 have lo2 := hlo 2 (by omega)
 have hi2 := hhi 2 (by omega)
 have tp2 := htop 2 (by omega)
 have lo3 := hlo 3 (by omega)
 have hi3 := hhi 3 (by omega)
 have tp3 := htop 3 (by omega)
 clear hlo hhi htop
 have i0 : ∀ w : World, (Instr.index 22 (A4 s) (.int .i64 0)).run Try.prog w = .ok (.int .i64 (s 0)) w := fun _ => by kernel_rfl
 have i1 : ∀ w : World, (Instr.index 22 (A4 s) (.int .i64 1)).run Try.prog w = .ok (.int .i64 (s 1)) w := fun _ => by kernel_rfl
 have i2 : ∀ w : World, (Instr.index 22 (A4 s) (.int .i64 2)).run Try.prog w = .ok (.int .i64 (s 2)) w := fun _ => by kernel_rfl
 have i3 : ∀ w : World, (Instr.index 22 (A4 s) (.int .i64 3)).run Try.prog w = .ok (.int .i64 (s 3)) w := fun _ => by kernel_rfl
 go_enter Try.func93, Try.ntmps93
 go_wp2_with fail
 refine wp_loop_rounds 5 ?_
 go_wp2_with (first | (rw [rounds_succ]))
 all_goals (refine bodyPost_ret (v := A4 (passF s d)) (by simp [results, Try.results93, go_sem, passF]; omega) rfl ⟨rfl, by (repeat first | (with_reducible assumption) | (with_reducible exact Below.refl _ _) | ((with_reducible refine bl_alloc _ ?_ ?_); focus (first | (simp; done) | (simp; omega) | omega)) | ((with_reducible refine bl_set _ ?_ ?_); focus (first | (simp; done) | (simp; omega) | omega)) | (with_reducible refine Below.drew ?_) | (with_reducible refine bl_drewN _ ?_))⟩)
theorem l2Pass_any (k s : Nat → Int) (d : Int) (hs : Sand k s) (hd : 0 ≤ d) (hd2 : d ≤ 30) (w : World) : Calls Try.prog 85 #[A4 s, .int .i64 d] w fun e w' => e = .returned (A4 (passF s d)) ∧ Below w.heap.size w w' := by
 obtain ⟨hlo, hhi, htop⟩ := hs
 have lo0 := hlo 0 (by omega)
 have hi0 := hhi 0 (by omega)
 have tp0 := htop 0 (by omega)
 have lo1 := hlo 1 (by omega)
 have hi1 := hhi 1 (by omega)
 have tp1 := htop 1 (by omega)
 have lo2 := hlo 2 (by omega)
 have hi2 := hhi 2 (by omega)
 have tp2 := htop 2 (by omega)
 have lo3 := hlo 3 (by omega)
 have hi3 := hhi 3 (by omega)
 have tp3 := htop 3 (by omega)
 clear hlo hhi htop
 go_enter Try.func85, Try.ntmps85
 go_wp2_with fail
 refine wp_loop_rounds 5 ?_
 go_wp2_with (first | (rw [rounds_succ]) | (go_at_call 51; refine (l1Most_any _ _ _).mono ?_; rintro e w' ⟨rfl, rfl⟩))
 refine bodyPost_ret (v := A4 (passF s d)) (by simp [results, Try.results85, go_sem, passF]) rfl ⟨rfl, by (repeat first | (with_reducible assumption) | (with_reducible exact Below.refl _ _) | ((with_reducible refine bl_alloc _ ?_ ?_); focus (first | (simp; done) | (simp; omega) | omega)) | ((with_reducible refine bl_set _ ?_ ?_); focus (first | (simp; done) | (simp; omega) | omega)) | (with_reducible refine Below.drew ?_) | (with_reducible refine bl_drewN _ ?_))⟩
theorem next_any (s : Nat → Int) (w : World) : Calls Try.prog 92 #[A4 s] w fun e w' => e = .returned (.int .i64 (nextF s)) ∧ Below w.heap.size w w' := by
 have i0 : ∀ w : World, (Instr.index 22 (A4 s) (.int .i64 0)).run Try.prog w = .ok (.int .i64 (s 0)) w := fun _ => by kernel_rfl
 have i1 : ∀ w : World, (Instr.index 22 (A4 s) (.int .i64 1)).run Try.prog w = .ok (.int .i64 (s 1)) w := fun _ => by kernel_rfl
 have i2 : ∀ w : World, (Instr.index 22 (A4 s) (.int .i64 2)).run Try.prog w = .ok (.int .i64 (s 2)) w := fun _ => by kernel_rfl
 have i3 : ∀ w : World, (Instr.index 22 (A4 s) (.int .i64 3)).run Try.prog w = .ok (.int .i64 (s 3)) w := fun _ => by kernel_rfl
 go_enter Try.func92, Try.ntmps92
 go_wp2_with fail
 go_loop [3, 7] (fun l i => ∃ j : Nat, j ≤ 4 ∧ i = .int .i64 j ∧ l = .int .i64 (nextTo s j)) (fun _ i => 4 - (intOf i).toNat)
 case atStart => exact ⟨0, by omega, rfl, rfl⟩
 case round =>
  obtain ⟨j, hj, rfl, rfl⟩ := hrel
  generalize hl : nextTo s j = l at *
  have HL : Hid (nextTo s j = l) := hl
  clear hl
  obtain rfl | rfl | rfl | rfl | rfl : j = 0 ∨ j = 1 ∨ j = 2 ∨ j = 3 ∨ j = 4 := by omega
  ·go_wp2
   all_goals
    go_round
    case rel => exact ⟨0+1, by omega, by go_num, by rw [nextTo, HL.out]; unfold nx; congr 1; first | (rw [if_pos (by first | omega | (simp only [beq_iff_eq] at *; omega) | (simp only [beq_eq_false_iff_ne, ne_eq] at *; omega))]) | (rw [if_neg (by first | omega | (simp only [beq_iff_eq] at *; omega) | (simp only [beq_eq_false_iff_ne, ne_eq] at *; omega))])⟩
    case measure => simp [intOf]
  ·go_wp2
   all_goals
    go_round
    case rel => exact ⟨1+1, by omega, by go_num, by rw [nextTo, HL.out]; unfold nx; congr 1; first | (rw [if_pos (by first | omega | (simp only [beq_iff_eq] at *; omega) | (simp only [beq_eq_false_iff_ne, ne_eq] at *; omega))]) | (rw [if_neg (by first | omega | (simp only [beq_iff_eq] at *; omega) | (simp only [beq_eq_false_iff_ne, ne_eq] at *; omega))])⟩
    case measure => simp [intOf]
  ·go_wp2
   all_goals
    go_round
    case rel => exact ⟨2+1, by omega, by go_num, by rw [nextTo, HL.out]; unfold nx; congr 1; first | (rw [if_pos (by first | omega | (simp only [beq_iff_eq] at *; omega) | (simp only [beq_eq_false_iff_ne, ne_eq] at *; omega))]) | (rw [if_neg (by first | omega | (simp only [beq_iff_eq] at *; omega) | (simp only [beq_eq_false_iff_ne, ne_eq] at *; omega))])⟩
    case measure => simp [intOf]
  ·go_wp2
   all_goals
    go_round
    case rel => exact ⟨3+1, by omega, by go_num, by rw [nextTo, HL.out]; unfold nx; congr 1; first | (rw [if_pos (by first | omega | (simp only [beq_iff_eq] at *; omega) | (simp only [beq_eq_false_iff_ne, ne_eq] at *; omega))]) | (rw [if_neg (by first | omega | (simp only [beq_iff_eq] at *; omega) | (simp only [beq_eq_false_iff_ne, ne_eq] at *; omega))])⟩
    case measure => simp [intOf]
  ·go_wp2
   go_ret
   exact ⟨ret_int HL.out.symm, by (repeat first | (with_reducible assumption) | (with_reducible exact Below.refl _ _) | ((with_reducible refine bl_alloc _ ?_ ?_); focus (first | (simp; done) | (simp; omega) | omega)) | ((with_reducible refine bl_set _ ?_ ?_); focus (first | (simp; done) | (simp; omega) | omega)) | (with_reducible refine Below.drew ?_) | (with_reducible refine bl_drewN _ ?_))⟩
theorem l2Next_any (s : Nat → Int) (w : World) : Calls Try.prog 84 #[A4 s] w fun e w' => e = .returned (.int .i64 (nextF s)) ∧ Below w.heap.size w w' := by
 go_enter Try.func84, Try.ntmps84
 go_wp2_with fail
 go_loopw [3, 4] (fun l i wr => ∃ j : Nat, j ≤ 4 ∧ i = .int .i64 j ∧ l = .int .i64 (nextTo s j) ∧ Below w.heap.size w wr ∧ wr.cell? ⟨w.heap.size, 0, none⟩ = some (.int .i64 (s 0)) ∧ wr.cell? ⟨w.heap.size, 1, none⟩ = some (.int .i64 (s 1)) ∧ wr.cell? ⟨w.heap.size, 2, none⟩ = some (.int .i64 (s 2)) ∧ wr.cell? ⟨w.heap.size, 3, none⟩ = some (.int .i64 (s 3))) (fun _ i _ => 4 - (intOf i).toNat)
 case atStart => exact ⟨0, by omega, rfl, rfl, (Below.refl _ _).alloc (Nat.le_refl _) _, by simp, by simp, by simp, by simp⟩
 case round =>
  obtain ⟨j, hj, rfl, rfl, hB, c0, c1, c2, c3⟩ := hrel
  generalize hl : nextTo s j = l at *
  have HL : Hid (nextTo s j = l) := hl
  clear hl
  obtain rfl | rfl | rfl | rfl | rfl : j = 0 ∨ j = 1 ∨ j = 2 ∨ j = 3 ∨ j = 4 := by omega
  ·by_cases p1 : 0 < s 0
   ·have b1 : decide (0 < s 0) = true := by simpa using p1
    by_cases p2 : l = 0
    ·have b2 : (l == 0) = true := by simpa using p2
     have p2' : l ≤ 0 ∧ 0 ≤ l := by omega
     clear p2
     go_wp2_with (first | (go_quiet (fail)))
     all_goals
     go_roundw
     case rel => exact ⟨0+1, by omega, by go_num, by rw [nextTo, HL.out]; unfold nx; congr 1; first | (rw [if_pos (by omega)]) | (rw [if_neg (by omega)]), by (repeat first | (with_reducible assumption) | (with_reducible exact Below.refl _ _) | ((with_reducible refine bl_alloc _ ?_ ?_); focus (first | (simp; done) | (simp; omega) | omega)) | ((with_reducible refine bl_set _ ?_ ?_); focus (first | (simp; done) | (simp; omega) | omega)) | (with_reducible refine Below.drew ?_) | (with_reducible refine bl_drewN _ ?_)), by simpa using c0, by simpa using c1, by simpa using c2, by simpa using c3⟩
     case measure => simp [intOf]
    ·have b2 : (l == 0) = false := by simpa using p2
     by_cases p3 : s 0 < l
     ·have b3 : decide (s 0 < l) = true := by simpa using p3
      go_wp2_with (first | (go_quiet (fail)))
      all_goals
      go_roundw
      case rel => exact ⟨0+1, by omega, by go_num, by rw [nextTo, HL.out]; unfold nx; congr 1; first | (rw [if_pos (by omega)]) | (rw [if_neg (by omega)]), by (repeat first | (with_reducible assumption) | (with_reducible exact Below.refl _ _) | ((with_reducible refine bl_alloc _ ?_ ?_); focus (first | (simp; done) | (simp; omega) | omega)) | ((with_reducible refine bl_set _ ?_ ?_); focus (first | (simp; done) | (simp; omega) | omega)) | (with_reducible refine Below.drew ?_) | (with_reducible refine bl_drewN _ ?_)), by simpa using c0, by simpa using c1, by simpa using c2, by simpa using c3⟩
      case measure => simp [intOf]
     ·have b3 : decide (s 0 < l) = false := by simpa using p3
      go_wp2_with (first | (go_quiet (fail)))
      all_goals
      go_roundw
      case rel => exact ⟨0+1, by omega, by go_num, by rw [nextTo, HL.out]; unfold nx; congr 1; first | (rw [if_pos (by omega)]) | (rw [if_neg (by omega)]), by (repeat first | (with_reducible assumption) | (with_reducible exact Below.refl _ _) | ((with_reducible refine bl_alloc _ ?_ ?_); focus (first | (simp; done) | (simp; omega) | omega)) | ((with_reducible refine bl_set _ ?_ ?_); focus (first | (simp; done) | (simp; omega) | omega)) | (with_reducible refine Below.drew ?_) | (with_reducible refine bl_drewN _ ?_)), by simpa using c0, by simpa using c1, by simpa using c2, by simpa using c3⟩
      case measure => simp [intOf]
   ·have b1 : decide (0 < s 0) = false := by simpa using p1
    go_wp2_with (first | (go_quiet (fail)))
    all_goals
    go_roundw
    case rel => exact ⟨0+1, by omega, by go_num, by rw [nextTo, HL.out]; unfold nx; congr 1; first | (rw [if_pos (by omega)]) | (rw [if_neg (by omega)]), by (repeat first | (with_reducible assumption) | (with_reducible exact Below.refl _ _) | ((with_reducible refine bl_alloc _ ?_ ?_); focus (first | (simp; done) | (simp; omega) | omega)) | ((with_reducible refine bl_set _ ?_ ?_); focus (first | (simp; done) | (simp; omega) | omega)) | (with_reducible refine Below.drew ?_) | (with_reducible refine bl_drewN _ ?_)), by simpa using c0, by simpa using c1, by simpa using c2, by simpa using c3⟩
    case measure => simp [intOf]
  ·by_cases p1 : 0 < s 1
   ·have b1 : decide (0 < s 1) = true := by simpa using p1
    by_cases p2 : l = 0
    ·have b2 : (l == 0) = true := by simpa using p2
     have p2' : l ≤ 0 ∧ 0 ≤ l := by omega
     clear p2
     go_wp2_with (first | (go_quiet (fail)))
     all_goals
     go_roundw
     case rel => exact ⟨1+1, by omega, by go_num, by rw [nextTo, HL.out]; unfold nx; congr 1; first | (rw [if_pos (by omega)]) | (rw [if_neg (by omega)]), by (repeat first | (with_reducible assumption) | (with_reducible exact Below.refl _ _) | ((with_reducible refine bl_alloc _ ?_ ?_); focus (first | (simp; done) | (simp; omega) | omega)) | ((with_reducible refine bl_set _ ?_ ?_); focus (first | (simp; done) | (simp; omega) | omega)) | (with_reducible refine Below.drew ?_) | (with_reducible refine bl_drewN _ ?_)), by simpa using c0, by simpa using c1, by simpa using c2, by simpa using c3⟩
     case measure => simp [intOf]
    ·have b2 : (l == 0) = false := by simpa using p2
     by_cases p3 : s 1 < l
     ·have b3 : decide (s 1 < l) = true := by simpa using p3
      go_wp2_with (first | (go_quiet (fail)))
      all_goals
      go_roundw
      case rel => exact ⟨1+1, by omega, by go_num, by rw [nextTo, HL.out]; unfold nx; congr 1; first | (rw [if_pos (by omega)]) | (rw [if_neg (by omega)]), by (repeat first | (with_reducible assumption) | (with_reducible exact Below.refl _ _) | ((with_reducible refine bl_alloc _ ?_ ?_); focus (first | (simp; done) | (simp; omega) | omega)) | ((with_reducible refine bl_set _ ?_ ?_); focus (first | (simp; done) | (simp; omega) | omega)) | (with_reducible refine Below.drew ?_) | (with_reducible refine bl_drewN _ ?_)), by simpa using c0, by simpa using c1, by simpa using c2, by simpa using c3⟩
      case measure => simp [intOf]
     ·have b3 : decide (s 1 < l) = false := by simpa using p3
      go_wp2_with (first | (go_quiet (fail)))
      all_goals
      go_roundw
      case rel => exact ⟨1+1, by omega, by go_num, by rw [nextTo, HL.out]; unfold nx; congr 1; first | (rw [if_pos (by omega)]) | (rw [if_neg (by omega)]), by (repeat first | (with_reducible assumption) | (with_reducible exact Below.refl _ _) | ((with_reducible refine bl_alloc _ ?_ ?_); focus (first | (simp; done) | (simp; omega) | omega)) | ((with_reducible refine bl_set _ ?_ ?_); focus (first | (simp; done) | (simp; omega) | omega)) | (with_reducible refine Below.drew ?_) | (with_reducible refine bl_drewN _ ?_)), by simpa using c0, by simpa using c1, by simpa using c2, by simpa using c3⟩
      case measure => simp [intOf]
   ·have b1 : decide (0 < s 1) = false := by simpa using p1
    go_wp2_with (first | (go_quiet (fail)))
    all_goals
    go_roundw
    case rel => exact ⟨1+1, by omega, by go_num, by rw [nextTo, HL.out]; unfold nx; congr 1; first | (rw [if_pos (by omega)]) | (rw [if_neg (by omega)]), by (repeat first | (with_reducible assumption) | (with_reducible exact Below.refl _ _) | ((with_reducible refine bl_alloc _ ?_ ?_); focus (first | (simp; done) | (simp; omega) | omega)) | ((with_reducible refine bl_set _ ?_ ?_); focus (first | (simp; done) | (simp; omega) | omega)) | (with_reducible refine Below.drew ?_) | (with_reducible refine bl_drewN _ ?_)), by simpa using c0, by simpa using c1, by simpa using c2, by simpa using c3⟩
    case measure => simp [intOf]
  ·by_cases p1 : 0 < s 2
   ·have b1 : decide (0 < s 2) = true := by simpa using p1
    by_cases p2 : l = 0
    ·have b2 : (l == 0) = true := by simpa using p2
     have p2' : l ≤ 0 ∧ 0 ≤ l := by omega
     clear p2
     go_wp2_with (first | (go_quiet (fail)))
     all_goals
     go_roundw
     case rel => exact ⟨2+1, by omega, by go_num, by rw [nextTo, HL.out]; unfold nx; congr 1; first | (rw [if_pos (by omega)]) | (rw [if_neg (by omega)]), by (repeat first | (with_reducible assumption) | (with_reducible exact Below.refl _ _) | ((with_reducible refine bl_alloc _ ?_ ?_); focus (first | (simp; done) | (simp; omega) | omega)) | ((with_reducible refine bl_set _ ?_ ?_); focus (first | (simp; done) | (simp; omega) | omega)) | (with_reducible refine Below.drew ?_) | (with_reducible refine bl_drewN _ ?_)), by simpa using c0, by simpa using c1, by simpa using c2, by simpa using c3⟩
     case measure => simp [intOf]
    ·have b2 : (l == 0) = false := by simpa using p2
     by_cases p3 : s 2 < l
     ·have b3 : decide (s 2 < l) = true := by simpa using p3
      go_wp2_with (first | (go_quiet (fail)))
      all_goals
      go_roundw
      case rel => exact ⟨2+1, by omega, by go_num, by rw [nextTo, HL.out]; unfold nx; congr 1; first | (rw [if_pos (by omega)]) | (rw [if_neg (by omega)]), by (repeat first | (with_reducible assumption) | (with_reducible exact Below.refl _ _) | ((with_reducible refine bl_alloc _ ?_ ?_); focus (first | (simp; done) | (simp; omega) | omega)) | ((with_reducible refine bl_set _ ?_ ?_); focus (first | (simp; done) | (simp; omega) | omega)) | (with_reducible refine Below.drew ?_) | (with_reducible refine bl_drewN _ ?_)), by simpa using c0, by simpa using c1, by simpa using c2, by simpa using c3⟩
      case measure => simp [intOf]
     ·have b3 : decide (s 2 < l) = false := by simpa using p3
      go_wp2_with (first | (go_quiet (fail)))
      all_goals
      go_roundw
      case rel => exact ⟨2+1, by omega, by go_num, by rw [nextTo, HL.out]; unfold nx; congr 1; first | (rw [if_pos (by omega)]) | (rw [if_neg (by omega)]), by (repeat first | (with_reducible assumption) | (with_reducible exact Below.refl _ _) | ((with_reducible refine bl_alloc _ ?_ ?_); focus (first | (simp; done) | (simp; omega) | omega)) | ((with_reducible refine bl_set _ ?_ ?_); focus (first | (simp; done) | (simp; omega) | omega)) | (with_reducible refine Below.drew ?_) | (with_reducible refine bl_drewN _ ?_)), by simpa using c0, by simpa using c1, by simpa using c2, by simpa using c3⟩
      case measure => simp [intOf]
   ·have b1 : decide (0 < s 2) = false := by simpa using p1
    go_wp2_with (first | (go_quiet (fail)))
    all_goals
    go_roundw
    case rel => exact ⟨2+1, by omega, by go_num, by rw [nextTo, HL.out]; unfold nx; congr 1; first | (rw [if_pos (by omega)]) | (rw [if_neg (by omega)]), by (repeat first | (with_reducible assumption) | (with_reducible exact Below.refl _ _) | ((with_reducible refine bl_alloc _ ?_ ?_); focus (first | (simp; done) | (simp; omega) | omega)) | ((with_reducible refine bl_set _ ?_ ?_); focus (first | (simp; done) | (simp; omega) | omega)) | (with_reducible refine Below.drew ?_) | (with_reducible refine bl_drewN _ ?_)), by simpa using c0, by simpa using c1, by simpa using c2, by simpa using c3⟩
    case measure => simp [intOf]
  ·by_cases p1 : 0 < s 3
   ·have b1 : decide (0 < s 3) = true := by simpa using p1
    by_cases p2 : l = 0
    ·have b2 : (l == 0) = true := by simpa using p2
     have p2' : l ≤ 0 ∧ 0 ≤ l := by omega
     clear p2
     go_wp2_with (first | (go_quiet (fail)))
     all_goals
     go_roundw
     case rel => exact ⟨3+1, by omega, by go_num, by rw [nextTo, HL.out]; unfold nx; congr 1; first | (rw [if_pos (by omega)]) | (rw [if_neg (by omega)]), by (repeat first | (with_reducible assumption) | (with_reducible exact Below.refl _ _) | ((with_reducible refine bl_alloc _ ?_ ?_); focus (first | (simp; done) | (simp; omega) | omega)) | ((with_reducible refine bl_set _ ?_ ?_); focus (first | (simp; done) | (simp; omega) | omega)) | (with_reducible refine Below.drew ?_) | (with_reducible refine bl_drewN _ ?_)), by simpa using c0, by simpa using c1, by simpa using c2, by simpa using c3⟩
     case measure => simp [intOf]
    ·have b2 : (l == 0) = false := by simpa using p2
     by_cases p3 : s 3 < l
     ·have b3 : decide (s 3 < l) = true := by simpa using p3
      go_wp2_with (first | (go_quiet (fail)))
      all_goals
      go_roundw
      case rel => exact ⟨3+1, by omega, by go_num, by rw [nextTo, HL.out]; unfold nx; congr 1; first | (rw [if_pos (by omega)]) | (rw [if_neg (by omega)]), by (repeat first | (with_reducible assumption) | (with_reducible exact Below.refl _ _) | ((with_reducible refine bl_alloc _ ?_ ?_); focus (first | (simp; done) | (simp; omega) | omega)) | ((with_reducible refine bl_set _ ?_ ?_); focus (first | (simp; done) | (simp; omega) | omega)) | (with_reducible refine Below.drew ?_) | (with_reducible refine bl_drewN _ ?_)), by simpa using c0, by simpa using c1, by simpa using c2, by simpa using c3⟩
      case measure => simp [intOf]
     ·have b3 : decide (s 3 < l) = false := by simpa using p3
      go_wp2_with (first | (go_quiet (fail)))
      all_goals
      go_roundw
      case rel => exact ⟨3+1, by omega, by go_num, by rw [nextTo, HL.out]; unfold nx; congr 1; first | (rw [if_pos (by omega)]) | (rw [if_neg (by omega)]), by (repeat first | (with_reducible assumption) | (with_reducible exact Below.refl _ _) | ((with_reducible refine bl_alloc _ ?_ ?_); focus (first | (simp; done) | (simp; omega) | omega)) | ((with_reducible refine bl_set _ ?_ ?_); focus (first | (simp; done) | (simp; omega) | omega)) | (with_reducible refine Below.drew ?_) | (with_reducible refine bl_drewN _ ?_)), by simpa using c0, by simpa using c1, by simpa using c2, by simpa using c3⟩
      case measure => simp [intOf]
   ·have b1 : decide (0 < s 3) = false := by simpa using p1
    go_wp2_with (first | (go_quiet (fail)))
    all_goals
    go_roundw
    case rel => exact ⟨3+1, by omega, by go_num, by rw [nextTo, HL.out]; unfold nx; congr 1; first | (rw [if_pos (by omega)]) | (rw [if_neg (by omega)]), by (repeat first | (with_reducible assumption) | (with_reducible exact Below.refl _ _) | ((with_reducible refine bl_alloc _ ?_ ?_); focus (first | (simp; done) | (simp; omega) | omega)) | ((with_reducible refine bl_set _ ?_ ?_); focus (first | (simp; done) | (simp; omega) | omega)) | (with_reducible refine Below.drew ?_) | (with_reducible refine bl_drewN _ ?_)), by simpa using c0, by simpa using c1, by simpa using c2, by simpa using c3⟩
    case measure => simp [intOf]
  ·go_wp2
   go_ret
   exact ⟨ret_int HL.out.symm, by (repeat first | (with_reducible assumption) | (with_reducible exact Below.refl _ _) | ((with_reducible refine bl_alloc _ ?_ ?_); focus (first | (simp; done) | (simp; omega) | omega)) | ((with_reducible refine bl_set _ ?_ ?_); focus (first | (simp; done) | (simp; omega) | omega)) | (with_reducible refine Below.drew ?_) | (with_reducible refine bl_drewN _ ?_))⟩
theorem step_any (k s : Nat → Int) (set : Int) (hs : Sand k s) (w : World) : Calls Try.prog 66 #[A4 k, A4 s, .int .i64 set] w fun e w' => e = .returned (.tuple #[A4 (stepS k s set), .int .i64 (stepD k s set)]) ∧ Below w.heap.size w w' := by
 have ht := hs.turn set
 have hd := ht.next
 go_enter Try.func66, Try.ntmps66
 go_wp2_with (first | (go_at_call 91; refine (turn_any k s set hs _).mono ?_; rintro e w' ⟨rfl, hb⟩; have hB : Below w.heap.size w w' := Below.trans (by (repeat first | (with_reducible assumption) | (with_reducible exact Below.refl _ _) | ((with_reducible refine bl_alloc _ ?_ ?_); focus (first | (simp; done) | (simp; omega) | omega)) | ((with_reducible refine bl_set _ ?_ ?_); focus (first | (simp; done) | (simp; omega) | omega)) | (with_reducible refine Below.drew ?_) | (with_reducible refine bl_drewN _ ?_))) (hb.mono (by first | (simp; done) | (simp; omega) | omega)); obtain ⟨hc1, hf1⟩ := bcell hb; have hz1 := hb.size; (try simp at hz1); (try have hy0 : w.heap.size < w'.heap.size := by omega); (try have hy1 : w.heap.size + 1 < w'.heap.size := by omega); (try have hy2 : w.heap.size + 1 + 1 < w'.heap.size := by omega); (try have hy3 : w.heap.size + 1 + 1 + 1 < w'.heap.size := by omega); clear hb) | (go_at_call 92; refine (next_any (turnF k s set) _).mono ?_; rintro e w' ⟨rfl, hb⟩; have hB : Below w.heap.size w w' := Below.trans (by (repeat first | (with_reducible assumption) | (with_reducible exact Below.refl _ _) | ((with_reducible refine bl_alloc _ ?_ ?_); focus (first | (simp; done) | (simp; omega) | omega)) | ((with_reducible refine bl_set _ ?_ ?_); focus (first | (simp; done) | (simp; omega) | omega)) | (with_reducible refine Below.drew ?_) | (with_reducible refine bl_drewN _ ?_))) (hb.mono (by first | (simp; done) | (simp; omega) | omega)); obtain ⟨hc2, hf2⟩ := bcell hb; have hz2 := hb.size; (try simp at hz2); (try have hy0 : w.heap.size < w'.heap.size := by omega); (try have hy1 : w.heap.size + 1 < w'.heap.size := by omega); (try have hy2 : w.heap.size + 1 + 1 < w'.heap.size := by omega); (try have hy3 : w.heap.size + 1 + 1 + 1 < w'.heap.size := by omega); clear hb) | (go_at_call 93; refine (pass_any k (turnF k s set) (nextF (turnF k s set)) ht hd.1 _).mono ?_; rintro e w' ⟨rfl, hb⟩; have hB : Below w.heap.size w w' := Below.trans (by (repeat first | (with_reducible assumption) | (with_reducible exact Below.refl _ _) | ((with_reducible refine bl_alloc _ ?_ ?_); focus (first | (simp; done) | (simp; omega) | omega)) | ((with_reducible refine bl_set _ ?_ ?_); focus (first | (simp; done) | (simp; omega) | omega)) | (with_reducible refine Below.drew ?_) | (with_reducible refine bl_drewN _ ?_))) (hb.mono (by first | (simp; done) | (simp; omega) | omega)); obtain ⟨hc3, hf3⟩ := bcell hb; have hz3 := hb.size; (try simp at hz3); (try have hy0 : w.heap.size < w'.heap.size := by omega); (try have hy1 : w.heap.size + 1 < w'.heap.size := by omega); (try have hy2 : w.heap.size + 1 + 1 < w'.heap.size := by omega); (try have hy3 : w.heap.size + 1 + 1 + 1 < w'.heap.size := by omega); clear hb))
 refine bodyPost_ret (v := .tuple #[A4 (stepS k s set), .int .i64 (stepD k s set)]) (by simp [results, Try.results66, go_sem, stepS, stepD, *]) rfl ⟨rfl, by (repeat first | (with_reducible assumption) | (with_reducible exact Below.refl _ _) | ((with_reducible refine bl_alloc _ ?_ ?_); focus (first | (simp; done) | (simp; omega) | omega)) | ((with_reducible refine bl_set _ ?_ ?_); focus (first | (simp; done) | (simp; omega) | omega)) | (with_reducible refine Below.drew ?_) | (with_reducible refine bl_drewN _ ?_))⟩
theorem l2Step_any (k s : Nat → Int) (set : Int) (hs : Sand k s) (w : World) : Calls Try.prog 60 #[A4 k, A4 s, .int .i64 set] w fun e w' => e = .returned (.tuple #[A4 (stepS k s set), .int .i64 (stepD k s set)]) ∧ Below w.heap.size w w' := by
 have ht := hs.turn set
 have hd := ht.next
 go_enter Try.func60, Try.ntmps60
 go_wp2_with (first | (go_at_call 83; refine (l2Turn_any k s set hs _).mono ?_; rintro e w' ⟨rfl, hb⟩; have hB : Below w.heap.size w w' := Below.trans (by (repeat first | (with_reducible assumption) | (with_reducible exact Below.refl _ _) | ((with_reducible refine bl_alloc _ ?_ ?_); focus (first | (simp; done) | (simp; omega) | omega)) | ((with_reducible refine bl_set _ ?_ ?_); focus (first | (simp; done) | (simp; omega) | omega)) | (with_reducible refine Below.drew ?_) | (with_reducible refine bl_drewN _ ?_))) (hb.mono (by first | (simp; done) | (simp; omega) | omega)); obtain ⟨hc1, hf1⟩ := bcell hb; have hz1 := hb.size; (try simp at hz1); (try have hy0 : w.heap.size < w'.heap.size := by omega); (try have hy1 : w.heap.size + 1 < w'.heap.size := by omega); (try have hy2 : w.heap.size + 1 + 1 < w'.heap.size := by omega); (try have hy3 : w.heap.size + 1 + 1 + 1 < w'.heap.size := by omega); clear hb) | (go_at_call 84; refine (l2Next_any (turnF k s set) _).mono ?_; rintro e w' ⟨rfl, hb⟩; have hB : Below w.heap.size w w' := Below.trans (by (repeat first | (with_reducible assumption) | (with_reducible exact Below.refl _ _) | ((with_reducible refine bl_alloc _ ?_ ?_); focus (first | (simp; done) | (simp; omega) | omega)) | ((with_reducible refine bl_set _ ?_ ?_); focus (first | (simp; done) | (simp; omega) | omega)) | (with_reducible refine Below.drew ?_) | (with_reducible refine bl_drewN _ ?_))) (hb.mono (by first | (simp; done) | (simp; omega) | omega)); obtain ⟨hc2, hf2⟩ := bcell hb; have hz2 := hb.size; (try simp at hz2); (try have hy0 : w.heap.size < w'.heap.size := by omega); (try have hy1 : w.heap.size + 1 < w'.heap.size := by omega); (try have hy2 : w.heap.size + 1 + 1 < w'.heap.size := by omega); (try have hy3 : w.heap.size + 1 + 1 + 1 < w'.heap.size := by omega); clear hb) | (go_at_call 85; refine (l2Pass_any k (turnF k s set) (nextF (turnF k s set)) ht hd.1 hd.2 _).mono ?_; rintro e w' ⟨rfl, hb⟩; have hB : Below w.heap.size w w' := Below.trans (by (repeat first | (with_reducible assumption) | (with_reducible exact Below.refl _ _) | ((with_reducible refine bl_alloc _ ?_ ?_); focus (first | (simp; done) | (simp; omega) | omega)) | ((with_reducible refine bl_set _ ?_ ?_); focus (first | (simp; done) | (simp; omega) | omega)) | (with_reducible refine Below.drew ?_) | (with_reducible refine bl_drewN _ ?_))) (hb.mono (by first | (simp; done) | (simp; omega) | omega)); obtain ⟨hc3, hf3⟩ := bcell hb; have hz3 := hb.size; (try simp at hz3); (try have hy0 : w.heap.size < w'.heap.size := by omega); (try have hy1 : w.heap.size + 1 < w'.heap.size := by omega); (try have hy2 : w.heap.size + 1 + 1 < w'.heap.size := by omega); (try have hy3 : w.heap.size + 1 + 1 + 1 < w'.heap.size := by omega); clear hb))
 refine bodyPost_ret (v := .tuple #[A4 (stepS k s set), .int .i64 (stepD k s set)]) (by simp [results, Try.results60, go_sem, stepS, stepD, *]) rfl ⟨rfl, by (repeat first | (with_reducible assumption) | (with_reducible exact Below.refl _ _) | ((with_reducible refine bl_alloc _ ?_ ?_); focus (first | (simp; done) | (simp; omega) | omega)) | ((with_reducible refine bl_set _ ?_ ?_); focus (first | (simp; done) | (simp; omega) | omega)) | (with_reducible refine Below.drew ?_) | (with_reducible refine bl_drewN _ ?_))⟩
end Go.Proofs.Ytlhodfjdmafapaa
end
section
namespace Go.Proofs.Ytlhodfjdmafapaa
open Go.RowKit
set_option linter.unusedVariables false
theorem areSand_any (k s : Nat → Int) (w : World) : Calls Try.prog 63 #[A4 k, A4 s] w fun e w' => e = .returned (.bool (isKitB k && isSandB k s)) ∧ Below w.heap.size w w' := by
 cases h1 : isKitB k <;> cases h2 : isSandB k s
 all_goals
  go_enter Try.func63, Try.ntmps63
  go_wp2_with (first | (go_at_call 88; refine (isKit_any k _).mono ?_; rintro e w' ⟨rfl, hb⟩; have hB : Below w.heap.size w w' := Below.trans (by (repeat first | (with_reducible assumption) | (with_reducible exact Below.refl _ _) | ((with_reducible refine bl_alloc _ ?_ ?_); focus (first | (simp; done) | (simp; omega) | omega)) | ((with_reducible refine bl_set _ ?_ ?_); focus (first | (simp; done) | (simp; omega) | omega)) | (with_reducible refine Below.drew ?_) | (with_reducible refine bl_drewN _ ?_))) (hb.mono (by first | (simp; done) | (simp; omega) | omega)); obtain ⟨hc, hf⟩ := bcell hb; have hz := hb.size; (try simp at hz); (try have hy0 : w.heap.size < w'.heap.size := by omega); (try have hy1 : w.heap.size + 1 < w'.heap.size := by omega); (try have hy2 : w.heap.size + 1 + 1 < w'.heap.size := by omega); (try have hy3 : w.heap.size + 1 + 1 + 1 < w'.heap.size := by omega); clear hb) | (go_at_call 89; refine (isSand_any k s _).mono ?_; rintro e w' ⟨rfl, hb⟩; have hB : Below w.heap.size w w' := Below.trans (by (repeat first | (with_reducible assumption) | (with_reducible exact Below.refl _ _) | ((with_reducible refine bl_alloc _ ?_ ?_); focus (first | (simp; done) | (simp; omega) | omega)) | ((with_reducible refine bl_set _ ?_ ?_); focus (first | (simp; done) | (simp; omega) | omega)) | (with_reducible refine Below.drew ?_) | (with_reducible refine bl_drewN _ ?_))) (hb.mono (by first | (simp; done) | (simp; omega) | omega)); obtain ⟨hc2, hf2⟩ := bcell hb; have hz2 := hb.size; (try simp at hz2); (try have hy0 : w.heap.size < w'.heap.size := by omega); (try have hy1 : w.heap.size + 1 < w'.heap.size := by omega); (try have hy2 : w.heap.size + 1 + 1 < w'.heap.size := by omega); (try have hy3 : w.heap.size + 1 + 1 + 1 < w'.heap.size := by omega); clear hb))
  all_goals (go_ret; exact ⟨by simp [*], by (repeat first | (with_reducible assumption) | (with_reducible exact Below.refl _ _) | ((with_reducible refine bl_alloc _ ?_ ?_); focus (first | (simp; done) | (simp; omega) | omega)) | ((with_reducible refine bl_set _ ?_ ?_); focus (first | (simp; done) | (simp; omega) | omega)) | (with_reducible refine Below.drew ?_) | (with_reducible refine bl_drewN _ ?_))⟩)
end Go.Proofs.Ytlhodfjdmafapaa
end
section
namespace Go.Proofs.Ytlhodfjdmafapaa
open Go.RowKit
theorem set4_0 {W : World} {b : Nat} (u : Value) {x0 x1 x2 x3 : Value} (h : W.cell? ⟨b, 0, none⟩ = some u) : ((((W.setCell ⟨b, 0, none⟩ x0).setCell ⟨b, 1, none⟩ x1).setCell ⟨b, 2, none⟩ x2).setCell ⟨b, 3, none⟩ x3).cell? ⟨b, 0, none⟩ = some x0 := by
 rw [World.cell?_setCell_other _ _ _ _ (by simp), World.cell?_setCell_other _ _ _ _ (by simp), World.cell?_setCell_other _ _ _ _ (by simp)]
 exact World.cell?_setCell_same W _ x0 h
theorem set4_1 {W : World} {b : Nat} (u : Value) {x0 x1 x2 x3 : Value} (h : W.cell? ⟨b, 1, none⟩ = some u) : ((((W.setCell ⟨b, 0, none⟩ x0).setCell ⟨b, 1, none⟩ x1).setCell ⟨b, 2, none⟩ x2).setCell ⟨b, 3, none⟩ x3).cell? ⟨b, 1, none⟩ = some x1 := by
 rw [World.cell?_setCell_other _ _ _ _ (by simp), World.cell?_setCell_other _ _ _ _ (by simp)]
 exact World.cell?_setCell_same _ _ x1 ((World.cell?_setCell_other _ _ _ _ (by simp)).trans h)
theorem set4_2 {W : World} {b : Nat} (u : Value) {x0 x1 x2 x3 : Value} (h : W.cell? ⟨b, 2, none⟩ = some u) : ((((W.setCell ⟨b, 0, none⟩ x0).setCell ⟨b, 1, none⟩ x1).setCell ⟨b, 2, none⟩ x2).setCell ⟨b, 3, none⟩ x3).cell? ⟨b, 2, none⟩ = some x2 := by
 rw [World.cell?_setCell_other _ _ _ _ (by simp)]
 exact World.cell?_setCell_same _ _ x2 ((World.cell?_setCell_other _ _ _ _ (by simp)).trans ((World.cell?_setCell_other _ _ _ _ (by simp)).trans h))
theorem set4_3 {W : World} {b : Nat} (u : Value) {x0 x1 x2 x3 : Value} (h : W.cell? ⟨b, 3, none⟩ = some u) : ((((W.setCell ⟨b, 0, none⟩ x0).setCell ⟨b, 1, none⟩ x1).setCell ⟨b, 2, none⟩ x2).setCell ⟨b, 3, none⟩ x3).cell? ⟨b, 3, none⟩ = some x3 :=
 World.cell?_setCell_same _ _ x3 ((World.cell?_setCell_other _ _ _ _ (by simp)).trans ((World.cell?_setCell_other _ _ _ _ (by simp)).trans ((World.cell?_setCell_other _ _ _ _ (by simp)).trans h)))
end Go.Proofs.Ytlhodfjdmafapaa
end
section
namespace Go.Proofs.Ytlhodfjdmafapaa
open Go.RowKit
set_option linter.unusedVariables false
set_option linter.unusedSimpArgs false
def v4 (a b c d : Int) : Nat → Int
 | 0 => a
 | 1 => b
 | 2 => c
 | _ => d
def v3 (a b c : Int) : Nat → Int
 | 0 => a
 | 1 => b
 | _ => c
def v6 (a b c d e f : Int) : Nat → Int
 | 0 => a
 | 1 => b
 | 2 => c
 | 3 => d
 | 4 => e
 | _ => f
def eq4B (g h : Nat → Int) : Bool := g 0 == h 0 && g 1 == h 1 && g 2 == h 2 && g 3 == h 3
set_option maxHeartbeats 1600000 in
theorem eqIntA4_any (g h : Nat → Int) (w : World) : Calls Try.prog 69 #[A4 g, A4 h] w fun e w' => e = .returned (.bool (eq4B g h)) ∧ Below w.heap.size w w' := by
 cases t0 : (g 0 == h 0) <;> cases t1 : (g 1 == h 1) <;> cases t2 : (g 2 == h 2) <;> cases t3 : (g 3 == h 3)
 all_goals
  have n0 : (g 0 != h 0) = _ := congrArg not t0
  have n1 : (g 1 != h 1) = _ := congrArg not t1
  have n2 : (g 2 != h 2) = _ := congrArg not t2
  have n3 : (g 3 != h 3) = _ := congrArg not t3
  simp only [Bool.not_true, Bool.not_false] at n0 n1 n2 n3
  go_enter Try.func69, Try.ntmps69
  go_wp2_with fail
  refine wp_loop_rounds 5 ?_
  go_wp2_with (first | (go_quiet (fail)) | (rw [rounds_succ]))
  go_ret
  exact ⟨ret_bool (by simp [eq4B, *]), by (repeat first | (with_reducible assumption) | (with_reducible exact Below.refl _ _) | ((with_reducible refine bl_alloc _ ?_ ?_); focus (first | (simp; done) | (simp; omega) | omega)) | ((with_reducible refine bl_set _ ?_ ?_); focus (first | (simp; done) | (simp; omega) | omega)) | (with_reducible refine Below.drew ?_) | (with_reducible refine bl_drewN _ ?_))⟩
end Go.Proofs.Ytlhodfjdmafapaa
end
section
namespace Go.Proofs.Ytlhodfjdmafapaa
open Go.RowKit
set_option linter.unusedVariables false
set_option linter.unusedSimpArgs false
def xEqIntA4.f (a0_0 a0_1 a0_2 a0_3 a1_0 a1_1 a1_2 a1_3 : Int) : Option (Bool) := some (eq4B (v4 a0_0 a0_1 a0_2 a0_3) (v4 a1_0 a1_1 a1_2 a1_3))
theorem xEqIntA4.calls (a0_0 a0_1 a0_2 a0_3 a1_0 a1_1 a1_2 a1_3 : Int) (r : Bool) (w : World) (h : xEqIntA4.f a0_0 a0_1 a0_2 a0_3 a1_0 a1_1 a1_2 a1_3 = some (r)) : Calls Try.prog 69 #[.agg #[.int .i64 a0_0, .int .i64 a0_1, .int .i64 a0_2, .int .i64 a0_3], .agg #[.int .i64 a1_0, .int .i64 a1_1, .int .i64 a1_2, .int .i64 a1_3]] w fun e w' => e = .returned (.bool r) ∧ Below w.heap.size w w' := by
 unfold xEqIntA4.f at h
 obtain rfl := Option.some.inj h
 exact eqIntA4_any (v4 a0_0 a0_1 a0_2 a0_3) (v4 a1_0 a1_1 a1_2 a1_3) w
def xIsSet.f (a0_0 a0_1 a0_2 a0_3 a1 : Int) : Option (Bool) := some (isSetB (v4 a0_0 a0_1 a0_2 a0_3) a1)
theorem xIsSet.calls (a0_0 a0_1 a0_2 a0_3 a1 : Int) (r : Bool) (w : World) (h : xIsSet.f a0_0 a0_1 a0_2 a0_3 a1 = some (r)) : Calls Try.prog 90 #[.agg #[.int .i64 a0_0, .int .i64 a0_1, .int .i64 a0_2, .int .i64 a0_3], .int .i64 a1] w fun e w' => e = .returned (.bool r) ∧ Below w.heap.size w w' := by
 unfold xIsSet.f at h
 obtain rfl := Option.some.inj h
 exact isSet_any (v4 a0_0 a0_1 a0_2 a0_3) a1 w
end Go.Proofs.Ytlhodfjdmafapaa
end
section
namespace Go.Proofs.Ytlhodfjdmafapaa
open Go.WideMaps (ArrKey)
open Go.RowKit Go.Maps
set_option linter.unusedVariables false
set_option linter.unusedSimpArgs false
abbrev Sd : Type := Int × Int × Int × Int
def fn4 (x : Sd) : Nat → Int := v4 x.1 x.2.1 x.2.2.1 x.2.2.2
def tup4 (g : Nat → Int) : Sd := (g 0, g 1, g 2, g 3)
def good4 (s : Sd) : Prop := (0 ≤ s.1 ∧ s.1 ≤ 30) ∧ (0 ≤ s.2.1 ∧ s.2.1 ≤ 30) ∧ (0 ≤ s.2.2.1 ∧ s.2.2.1 ≤ 30) ∧ (0 ≤ s.2.2.2 ∧ s.2.2.2 ≤ 30)
theorem keyLits4 {P : Program} {k e : TypeId} {q : IntKind} (A : ArrKey P k e 4) (he : P.underlying e = some (.int q)) (m : Nat) {a b c d : Int} (wa : (Lit.int q a).wf = true) (wb : (Lit.int q b).wf = true) (wc : (Lit.int q c).wf = true) (wd : (Lit.int q d).wf = true) :
  P.keyLits (m + 2) k [.int q a, .int q b, .int q c, .int q d] = some [.int q a, .int q b, .int q c, .int q d] := by
 unfold Program.keyLits
 simp only [A.hu]
 rw [if_pos (by rw [A.size]; rfl), show List.range 4 = [0, 1, 2, 3] from rfl, List.mapM_cons, List.mapM_cons, List.mapM_cons, List.mapM_cons, List.mapM_nil]
 simp [A.one, Program.keyLits, he, wa, wb, wc, wd]
theorem arr4 : ArrKey Try.prog 22 3 4 := ⟨Try.underlying22, by kernel_rfl, by kernel_rfl, by kernel_rfl⟩
theorem law4 : Keyed Try.prog 22 := Keyed.of_law arr4.law
theorem size4 : ∃ m, (Try.prog).types.size + 1 = m + 3 := ⟨(Try.prog).types.size - 2, by kernel_rfl⟩
def lits4 (s : Sd) : List Lit := [.int .i64 s.1, .int .i64 s.2.1, .int .i64 s.2.2.1, .int .i64 s.2.2.2]
theorem wf30 {a : Int} (h : 0 ≤ a ∧ a ≤ 30) : (Lit.int .i64 a).wf = true := WalkArith.wf_i64 (by omega)
theorem keyOf4 {s : Sd} (h : good4 s) : keyOf Try.prog 22 (A4 (fn4 s)) = some (.string (keyBytes (lits4 s))) := by
 obtain ⟨m, hm⟩ := size4
 unfold keyOf
 simp only [Try.underlying22]
 rw [if_pos (by rw [show Program.keyType Try.prog 22 = true by kernel_rfl]; simp [Value.formed, Try.underlying22, arr4.size]), hm]
 show Option.map _ (Program.keyLits _ (m + 1 + 2) _ [.int .i64 s.1, .int .i64 s.2.1, .int .i64 s.2.2.1, .int .i64 s.2.2.2]) = _
 rw [keyLits4 arr4 Try.underlying3 (m + 1) (wf30 h.1) (wf30 h.2.1) (wf30 h.2.2.1) (wf30 h.2.2.2)]
 rfl
/-- maps keyed by sands -/
def mk4 {β : Type} (eV : β → Value) (vinj : ∀ a b, eV a = eV b → a = b) : MapKd Try.prog 22 Sd β where
 eK := fun s => A4 (fn4 s)
 lK := fun s => .string (keyBytes (lits4 s))
 good := good4
 eV := eV
 law := law4
 key := fun _ h => keyOf4 h
 inj := fun x y hx hy e => by
  have := law4.inj (keyOf4 hx) (e ▸ keyOf4 hy)
  obtain ⟨x0, x1, x2, x3⟩ := x
  obtain ⟨y0, y1, y2, y3⟩ := y
  simpa [A4, fn4, v4] using this
 vinj := vinj
end Go.Proofs.Ytlhodfjdmafapaa
end
section
namespace Go.Proofs.Ytlhodfjdmafapaa
open Go.RowKit
set_option linter.unusedVariables false
set_option linter.unusedSimpArgs false
def setsL (k : Nat → Int) : List Int := ((List.range 16).map fun (i : Nat) => (i : Int)).filter (isSetB k)
theorem setsL_mem {k : Nat → Int} {x : Int} (h : x ∈ setsL k) : 0 ≤ x ∧ x ≤ 15 ∧ isSetB k x = true := by
 obtain ⟨h1, h2⟩ := List.mem_filter.1 h
 obtain ⟨i, hi, rfl⟩ := List.mem_map.1 h1
 have := List.mem_range.1 hi
 exact ⟨by omega, by omega, h2⟩
theorem setsL_len (k : Nat → Int) : (setsL k).length ≤ 16 := by
 unfold setsL
 exact Nat.le_trans (List.length_filter_le _ _) (by simp)
abbrev Nd {α β : Type} (L : List (α × β)) : Prop := L.Pairwise fun p q => p.1 ≠ q.1
open Classical in
theorem getA_cons {α β : Type} (a : α × β) (r : List (α × β)) (x : α) : getA (a :: r) x = if a.1 = x then some a.2 else getA r x := by
 unfold getA
 by_cases e : a.1 = x
 ·rw [List.find?_cons_of_pos (by simpa using e), if_pos e]; rfl
 ·rw [List.find?_cons_of_neg (by simpa using e), if_neg e]
theorem sand_tup {k g : Nat → Int} (h : Sand k g) : Sand k (fn4 (tup4 g)) :=
  ⟨fun i hi => by obtain rfl | rfl | rfl | rfl : i = 0 ∨ i = 1 ∨ i = 2 ∨ i = 3 := by omega
                  all_goals exact h.lo _ (by omega),
   fun i hi => by obtain rfl | rfl | rfl | rfl : i = 0 ∨ i = 1 ∨ i = 2 ∨ i = 3 := by omega
                  all_goals exact h.hi _ (by omega), h.top⟩
end Go.Proofs.Ytlhodfjdmafapaa
end
section
namespace Go.Proofs.Ytlhodfjdmafapaa
open Go.RowKit Go.Proofs.YtlhodfjdmafapaaW.PrintWords
set_option linter.unusedVariables false
set_option linter.unusedSimpArgs false
theorem few_nats : ∀ (N : Nat) (l : List Nat), l.Nodup → (∀ x ∈ l, x < N) → l.length ≤ N
 | 0, l, _, h => by
  cases l with
  | nil => simp
  | cons a r => exact absurd (h a List.mem_cons_self) (Nat.not_lt_zero a)
 | N + 1, l, hn, h => by
  by_cases q : N ∈ l
  ·obtain ⟨s, t, rfl⟩ := List.append_of_mem q
   have hp : (s ++ N :: t).Perm (N :: (s ++ t)) := List.perm_middle
   obtain ⟨a1, a2⟩ := List.nodup_cons.1 (hp.nodup_iff.1 hn)
   have := few_nats N (s ++ t) a2 (fun x hx => by
    have h1 := h x (hp.mem_iff.2 (List.mem_cons_of_mem _ hx))
    have h2 : x ≠ N := fun e => a1 (e ▸ hx)
    omega)
   rw [hp.length_eq, List.length_cons]
   omega
  ·have := few_nats N l hn (fun x hx => by
    have h1 := h x hx
    have h2 : x ≠ N := fun e => q (e ▸ hx)
    omega)
   omega
end Go.Proofs.Ytlhodfjdmafapaa
end
section
namespace Go.Proofs.Ytlhodfjdmafapaa
open Go.RowKit
set_option linter.unusedVariables false
set_option linter.unusedSimpArgs false
def goS (k : Nat → Int) (x : Sd) (set : Int) : Sd := tup4 (stepS k (fn4 x) set)
def goD (k : Nat → Int) (x : Sd) (set : Int) : Int := stepD k (fn4 x) set
def calm0 : Sd := (0, 0, 0, 0)
inductive Reach (k : Nat → Int) : Sd → Int → Prop
 | calm : Reach k calm0 0
 | step (x : Sd) (t set : Int) : Reach k x t → set ∈ setsL k → 0 < goD k x set → Reach k (goS k x set) (t + goD k x set)
theorem calm_sand {k : Nat → Int} (hk : ∀ i, i < 4 → 0 ≤ k i ∧ k i ≤ 30) : Sand k (fn4 calm0) :=
  ⟨fun i hi => by obtain rfl | rfl | rfl | rfl : i = 0 ∨ i = 1 ∨ i = 2 ∨ i = 3 := by omega
                  all_goals exact Int.le_refl 0,
   fun i hi => by have := (hk i hi).1
                  obtain rfl | rfl | rfl | rfl : i = 0 ∨ i = 1 ∨ i = 2 ∨ i = 3 := by omega
                  all_goals exact this, fun i hi => (hk i hi).2⟩
theorem Reach.sand {k : Nat → Int} (hk : ∀ i, i < 4 → 0 ≤ k i ∧ k i ≤ 30) {x : Sd} {t : Int} (h : Reach k x t) : Sand k (fn4 x) ∧ 0 ≤ t := by
 induction h with
 | calm => exact ⟨calm_sand hk, Int.le_refl 0⟩
 | step x t set _ _ hd ih => exact ⟨sand_tup (ih.1.step set), by have := ih.2; omega⟩
/-- all sands that are met, with their least times -/
structure Met (k : Nat → Int) (M : List (Sd × Int)) : Prop where
 nd : Nd M
 calm : (calm0, 0) ∈ M
 reach : ∀ p ∈ M, Reach k p.1 p.2
 next : ∀ p ∈ M, ∀ set ∈ setsL k, 0 < goD k p.1 set → ∃ t, t ≤ p.2 + goD k p.1 set ∧ (goS k p.1 set, t) ∈ M
theorem nd_one {α β : Type} {M : List (α × β)} (h : Nd M) {x : α} {a b : β} (ha : (x, a) ∈ M) (hb : (x, b) ∈ M) : a = b := by
 have h1 := getA_mem h ha
 have h2 := getA_mem h hb
 rw [h1] at h2
 exact Option.some.inj h2
theorem Met.least {k : Nat → Int} {M : List (Sd × Int)} (h : Met k M) {x : Sd} {t : Int} (r : Reach k x t) : ∃ t', t' ≤ t ∧ (x, t') ∈ M := by
 induction r with
 | calm => exact ⟨0, Int.le_refl 0, h.calm⟩
 | step x t set _ hs hd ih =>
  obtain ⟨t', h1, h2⟩ := ih
  obtain ⟨u, h3, h4⟩ := h.next _ h2 set hs hd
  exact ⟨u, by simp only at h3; omega, h4⟩
theorem Met.sub {k : Nat → Int} {M M' : List (Sd × Int)} (h : Met k M) (h' : Met k M') : ∀ p, p ∈ M → p ∈ M' := by
 rintro ⟨x, t⟩ hp
 obtain ⟨t', a1, a2⟩ := h'.least (h.reach _ hp)
 obtain ⟨t'', b1, b2⟩ := h.least (h'.reach _ a2)
 have := nd_one h.nd hp b2
 obtain rfl : t' = t := by simp only at a1 b1; omega
 exact a2
/-! the program's way -/
def updQ (Q : Int → List Sd) (t : Int) (l : List Sd) : Int → List Sd := fun u => if u = t then l else Q u
theorem updQ_same (Q : Int → List Sd) (t : Int) (l : List Sd) : updQ Q t l t = l := by unfold updQ; rw [if_pos rfl]
theorem updQ_ne (Q : Int → List Sd) {t u : Int} (l : List Sd) (h : u ≠ t) : updQ Q t l u = Q u := by unfold updQ; rw [if_neg h]
/-- what waits behind position i of the list of 'time' -/
def Pend (Q : Int → List Sd) (time : Int) (i : Nat) (t : Int) (s : Sd) : Prop := (time < t ∧ s ∈ Q t) ∨ (t = time ∧ s ∈ (Q time).drop i)
structure MInv (k : Nat → Int) (M : List (Sd × Int)) (Q : Int → List Sd) (time last : Int) (i : Nat) (x : Sd) (rest : List Int) : Prop where
 nd : Nd M
 reach : ∀ p ∈ M, Reach k p.1 p.2
 old : ∀ p ∈ M, p.2 ≤ time
 queue : ∀ t s, s ∈ Q t → Reach k s t
 calm : (calm0, 0) ∈ M ∨ Pend Q time i 0 calm0
 next : ∀ p ∈ M, ∀ set ∈ setsL k, 0 < goD k p.1 set → (p.1 = x ∧ set ∈ rest) ∨ (∃ t, t ≤ p.2 + goD k p.1 set ∧ (goS k p.1 set, t) ∈ M) ∨ Pend Q time i (p.2 + goD k p.1 set) (goS k p.1 set)
 lastQ : ∀ t s, s ∈ Q t → t ≤ last
 lastB : last ≤ 30 * (M.length : Int)
 cur : rest = [] ∨ ((x, time) ∈ M ∧ time + 30 ≤ 30 * (M.length : Int))
 len : ∀ t, (Q t).length + rest.length ≤ 1 + 16 * M.length
 sub : ∀ set ∈ rest, set ∈ setsL k
 t0 : 0 ≤ time
 l0 : 0 ≤ last
def startQ : Int → List Sd := updQ (fun _ => []) 0 [calm0]
theorem MInv.start (k : Nat → Int) : MInv k [] startQ 0 0 0 calm0 [] where
 nd := List.Pairwise.nil
 reach := fun p hp => absurd hp List.not_mem_nil
 old := fun p hp => absurd hp List.not_mem_nil
 queue := fun t s hs => by
  by_cases e : t = 0
  ·subst e
   rw [startQ, updQ_same] at hs
   rw [List.mem_singleton.1 hs]
   exact Reach.calm
  ·rw [startQ, updQ_ne _ _ e] at hs
   exact absurd hs List.not_mem_nil
 calm := .inr (.inr ⟨rfl, by rw [startQ, updQ_same]; exact List.mem_cons_self⟩)
 next := fun p hp => absurd hp List.not_mem_nil
 lastQ := fun t s hs => by
  by_cases e : t = 0
  ·omega
  ·rw [startQ, updQ_ne _ _ e] at hs
   exact absurd hs List.not_mem_nil
 lastB := by simp
 cur := .inl rfl
 len := fun t => by
  by_cases e : t = 0
  ·subst e; rw [startQ, updQ_same]; simp
  ·rw [startQ, updQ_ne _ _ e]; simp
 sub := fun s hs => absurd hs List.not_mem_nil
 t0 := Int.le_refl 0
 l0 := Int.le_refl 0
section
variable {k : Nat → Int} {M : List (Sd × Int)} {Q : Int → List Sd} {time last : Int} {i : Nat} {x : Sd} {rest : List Int}
theorem Pend.next {t : Int} {s s0 : Sd} (h : Pend Q time i t s) (h0 : (Q time)[i]? = some s0) : Pend Q time (i + 1) t s ∨ (t = time ∧ s = s0) := by
 rcases h with h | ⟨h1, h2⟩
 ·exact .inl (.inl h)
 ·have hl : i < (Q time).length := by
   rcases Nat.lt_or_ge i (Q time).length with q | q
   ·exact q
   ·rw [List.getElem?_eq_none q] at h0; cases h0
  rw [List.drop_eq_getElem_cons hl] at h2
  have e : (Q time)[i] = s0 := by rw [List.getElem?_eq_getElem hl] at h0; exact Option.some.inj h0
  rw [e] at h2
  rcases List.mem_cons.1 h2 with h2 | h2
  ·exact .inr ⟨h1, h2⟩
  ·exact .inl (.inr ⟨h1, h2⟩)
/-- the sand is there already -/
theorem MInv.skip (h : MInv k M Q time last i x []) {s : Sd} {t0 : Int} (hs : (Q time)[i]? = some s) (hm : (s, t0) ∈ M) : MInv k M Q time last (i + 1) x [] where
 nd := h.nd
 reach := h.reach
 old := h.old
 queue := h.queue
 calm := by
  rcases h.calm with c | c
  ·exact .inl c
  ·rcases c.next hs with c | ⟨c1, c2⟩
   ·exact .inr c
   ·subst c2
    have h1 := h.old _ hm
    have h2 : 0 ≤ t0 := by
     obtain ⟨u, hu⟩ : ∃ u, u = t0 := ⟨_, rfl⟩
     have : ∀ {y : Sd} {v : Int}, Reach k y v → 0 ≤ v := fun r => by
      induction r with
      | calm => exact Int.le_refl 0
      | step _ _ _ _ _ hd ih => omega
     exact this (h.reach _ hm)
    simp only at h1
    obtain rfl : t0 = 0 := by omega
    exact .inl hm
 next := fun p hp set hset hd => by
  rcases h.next p hp set hset hd with c | c | c
  ·exact .inl c
  ·exact .inr (.inl c)
  ·rcases c.next hs with c | ⟨c1, c2⟩
   ·exact .inr (.inr c)
   ·rw [c2]
    have := h.old _ hm
    exact .inr (.inl ⟨t0, by simp only at this; omega, hm⟩)
 lastQ := h.lastQ
 lastB := h.lastB
 cur := h.cur
 len := h.len
 sub := h.sub
 t0 := h.t0
 l0 := h.l0
theorem delA_absent {α β : Type} {L : List (α × β)} {x : α} (h : getA L x = none) : delA L x = L := by
 unfold delA
 rw [List.filter_eq_self]
 intro p hp
 simpa using getA_none h p hp
theorem putA_absent {α β : Type} {L : List (α × β)} {x : α} {y : β} (h : getA L x = none) : putA L x y = (x, y) :: L := by rw [putA, delA_absent h]
/-- nothing runs, or the next sand is there -/
theorem MInv.drop {set : Int} (h : MInv k M Q time last i x (set :: rest)) (hc : goD k x set ≤ 0 ∨ ∃ t, (goS k x set, t) ∈ M) : MInv k M Q time last i x rest where
 nd := h.nd
 reach := h.reach
 old := h.old
 queue := h.queue
 calm := h.calm
 next := fun p hp st hset hd => by
  rcases h.next p hp st hset hd with ⟨c1, c2⟩ | c
  ·rcases List.mem_cons.1 c2 with rfl | c2
   ·rw [c1] at hd
    rcases hc with hc | ⟨t, hc⟩
    ·omega
    ·refine .inr (.inl ⟨t, ?_, by rw [c1]; exact hc⟩)
     have h1 := h.old _ hc
     rcases h.cur with q | ⟨q, _⟩
     ·cases q
     ·have e : p.2 = time := nd_one h.nd (x := x) (by rw [← c1]; exact hp) q
      rw [c1, e]
      simp only at h1
      omega
   ·exact .inl ⟨c1, c2⟩
  ·exact .inr c
 lastQ := h.lastQ
 lastB := h.lastB
 cur := by
  rcases h.cur with q | q
  ·cases q
  ·exact .inr q
 len := fun t => by have := h.len t; simp only [List.length_cons] at this; omega
 sub := fun s hs => h.sub s (List.mem_cons_of_mem _ hs)
 t0 := h.t0
 l0 := h.l0
theorem MInv.any (h : MInv k M Q time last i x []) (y : Sd) : MInv k M Q time last i y [] :=
 ⟨h.nd, h.reach, h.old, h.queue, h.calm, fun p hp set hset hd => (h.next p hp set hset hd).imp (fun c => absurd c.2 List.not_mem_nil) (fun c => c), h.lastQ, h.lastB, .inl rfl, h.len, fun _ hs => absurd hs List.not_mem_nil, h.t0, h.l0⟩
theorem MInv.met (h : MInv k M Q time last 0 x []) (hl : last < time) : Met k M := by
 have hpend : ∀ t s, ¬ Pend Q time 0 t s := fun t s c => by
  rcases c with ⟨c1, c2⟩ | ⟨c1, c2⟩
  ·have := h.lastQ _ _ c2; omega
  ·have := h.lastQ _ _ (List.mem_of_mem_drop c2); omega
 refine ⟨h.nd, ?_, h.reach, fun p hp set hset hd => ?_⟩
 ·rcases h.calm with c | c
  ·exact c
  ·exact absurd c (hpend _ _)
 ·rcases h.next p hp set hset hd with ⟨_, c⟩ | c | c
  ·exact absurd c List.not_mem_nil
  ·exact c
  ·exact absurd c (hpend _ _)
end
end Go.Proofs.Ytlhodfjdmafapaa
end
section
namespace Go.Proofs.Ytlhodfjdmafapaa
open Go.RowKit
set_option linter.unusedVariables false
set_option linter.unusedSimpArgs false
abbrev Edge : Type := Sd × Int
def edgeAdd (k : Nat → Int) (x : Sd) (acc : List Edge) (set : Int) : List Edge := if 0 < goD k x set ∧ (goS k x set, goD k x set) ∉ acc then acc ++ [(goS k x set, goD k x set)] else acc
/-- the steps from a sand, each once -/
def edgesL (k : Nat → Int) (x : Sd) : List Edge := (setsL k).foldl (edgeAdd k x) []
theorem edgeAdd_len (k : Nat → Int) (x : Sd) (acc : List Edge) (a : Int) : (edgeAdd k x acc a).length ≤ acc.length + 1 := by
 unfold edgeAdd
 split <;> simp
theorem foldEdge_len {k : Nat → Int} {x : Sd} : ∀ (l : List Int) (acc : List Edge), (l.foldl (edgeAdd k x) acc).length ≤ acc.length + l.length
 | [], acc => by simp
 | a :: l, acc => by
  rw [List.foldl_cons]
  have h1 := foldEdge_len (k := k) (x := x) l (edgeAdd k x acc a)
  have h2 := edgeAdd_len k x acc a
  rw [List.length_cons]
  omega
theorem edges_len (k : Nat → Int) (x : Sd) : (edgesL k x).length ≤ 16 := by
 have h1 := foldEdge_len (k := k) (x := x) (setsL k) []
 have h2 := setsL_len k
 unfold edgesL
 simp only [List.length_nil] at h1
 omega
/-! bits -/
/-! which sands are looked at -/
abbrev keyIn (O : List (Sd × Int)) (x : Sd) : Prop := ∃ v, (x, v) ∈ O
structure SInv (k : Nat → Int) (s0 : Sd) (O : List (Sd × Int)) (l : List Sd) (i : Nat) (x : Sd) (rest : List Edge) : Prop where
 nd : Nd O
 one : ∀ p ∈ O, p.2 = 1 ∧ Sand k (fn4 p.1)
 list : ∀ s ∈ l, Sand k (fn4 s)
 start : keyIn O s0 ∨ s0 ∈ l.drop i
 next : ∀ y, keyIn O y → ∀ e ∈ edgesL k y, (y = x ∧ e ∈ rest) ∨ keyIn O e.1 ∨ e.1 ∈ l.drop i
 len : l.length + rest.length ≤ 1 + 16 * O.length
 cur : rest = [] ∨ (keyIn O x ∧ ∀ e ∈ rest, e ∈ edgesL k x)
theorem few31s {k : Nat → Int} (hk : ∀ i, i < 4 → 0 ≤ k i ∧ k i ≤ 30) {β : Type} {M : List (Sd × β)} (hn : Nd M) (hr : ∀ p ∈ M, Sand k (fn4 p.1)) : M.length ≤ 923521 := by
 have := few_nats 923521 (M.map fun e => (((e.1.1 * 31 + e.1.2.1) * 31 + e.1.2.2.1) * 31 + e.1.2.2.2).toNat) (by
  unfold List.Nodup
  rw [List.pairwise_map]
  refine List.Pairwise.imp_of_mem ?_ hn
  rintro ⟨⟨a0, a1, a2, a3⟩, t⟩ ⟨⟨b0, b1, b2, b3⟩, u⟩ hp hq hne e
  have ha := hr _ hp
  have hb := hr _ hq
  have p0 : 0 ≤ a0 ∧ a0 ≤ k 0 ∧ k 0 ≤ 30 := ⟨ha.lo 0 (by omega), ha.hi 0 (by omega), ha.top 0 (by omega)⟩
  have p1 : 0 ≤ a1 ∧ a1 ≤ k 1 ∧ k 1 ≤ 30 := ⟨ha.lo 1 (by omega), ha.hi 1 (by omega), ha.top 1 (by omega)⟩
  have p2 : 0 ≤ a2 ∧ a2 ≤ k 2 ∧ k 2 ≤ 30 := ⟨ha.lo 2 (by omega), ha.hi 2 (by omega), ha.top 2 (by omega)⟩
  have p3 : 0 ≤ a3 ∧ a3 ≤ k 3 ∧ k 3 ≤ 30 := ⟨ha.lo 3 (by omega), ha.hi 3 (by omega), ha.top 3 (by omega)⟩
  have q0 : 0 ≤ b0 ∧ b0 ≤ k 0 := ⟨hb.lo 0 (by omega), hb.hi 0 (by omega)⟩
  have q1 : 0 ≤ b1 ∧ b1 ≤ k 1 := ⟨hb.lo 1 (by omega), hb.hi 1 (by omega)⟩
  have q2 : 0 ≤ b2 ∧ b2 ≤ k 2 := ⟨hb.lo 2 (by omega), hb.hi 2 (by omega)⟩
  have q3 : 0 ≤ b3 ∧ b3 ≤ k 3 := ⟨hb.lo 3 (by omega), hb.hi 3 (by omega)⟩
  apply hne
  simp only at e
  show (a0, a1, a2, a3) = (b0, b1, b2, b3)
  have e3 : a3 = b3 := by omega
  have e2 : a2 = b2 := by omega
  have e1 : a1 = b1 := by omega
  have e0 : a0 = b0 := by omega
  rw [e0, e1, e2, e3]) (fun x hx => by
  obtain ⟨⟨⟨a0, a1, a2, a3⟩, t⟩, he, rfl⟩ := List.mem_map.1 hx
  have ha := hr _ he
  have p0 : 0 ≤ a0 ∧ a0 ≤ k 0 ∧ k 0 ≤ 30 := ⟨ha.lo 0 (by omega), ha.hi 0 (by omega), ha.top 0 (by omega)⟩
  have p1 : 0 ≤ a1 ∧ a1 ≤ k 1 ∧ k 1 ≤ 30 := ⟨ha.lo 1 (by omega), ha.hi 1 (by omega), ha.top 1 (by omega)⟩
  have p2 : 0 ≤ a2 ∧ a2 ≤ k 2 ∧ k 2 ≤ 30 := ⟨ha.lo 2 (by omega), ha.hi 2 (by omega), ha.top 2 (by omega)⟩
  have p3 : 0 ≤ a3 ∧ a3 ≤ k 3 ∧ k 3 ≤ 30 := ⟨ha.lo 3 (by omega), ha.hi 3 (by omega), ha.top 3 (by omega)⟩
  simp only
  omega)
 simpa using this
section
variable {k : Nat → Int} {s0 : Sd} {O : List (Sd × Int)} {l : List Sd} {i : Nat} {x : Sd} {rest : List Edge}
theorem drop_next {l : List Sd} {n : Nat} {a b : Sd} (h0 : l[n]? = some b) (h : a ∈ l.drop n) : a = b ∨ a ∈ l.drop (n + 1) := by
 have hl : n < l.length := by
  rcases Nat.lt_or_ge n l.length with q | q
  ·exact q
  ·rw [List.getElem?_eq_none q] at h0; cases h0
 rw [List.drop_eq_getElem_cons hl] at h
 have e : l[n] = b := by rw [List.getElem?_eq_getElem hl] at h0; exact Option.some.inj h0
 rw [e] at h
 exact List.mem_cons.1 h
theorem SInv.skip (h : SInv k s0 O l i x []) {s : Sd} (hs : l[i]? = some s) (hk : keyIn O s) : SInv k s0 O l (i + 1) x [] :=
 ⟨h.nd, h.one, h.list, by
  rcases h.start with c | c
  ·exact .inl c
  ·rcases drop_next hs c with rfl | c
   ·exact .inl hk
   ·exact .inr c, fun y hy e he => by
  rcases h.next y hy e he with ⟨_, c⟩ | c | c
  ·exact absurd c List.not_mem_nil
  ·exact .inr (.inl c)
  ·rcases drop_next hs c with c | c
   ·exact .inr (.inl (by rw [c]; exact hk))
   ·exact .inr (.inr c), h.len, .inl rfl⟩
theorem SInv.take (h : SInv k s0 O l i x []) {s : Sd} (hs : l[i]? = some s) (hg : getA O s = none) : SInv k s0 (putA O s 1) l (i + 1) s (edgesL k s) := by
 have e := putA_absent (y := (1 : Int)) hg
 have hlen : (putA O s 1).length = O.length + 1 := by rw [e]; rfl
 have hself : keyIn (putA O s 1) s := ⟨1, by rw [e]; exact List.mem_cons_self⟩
 have hold : ∀ y, keyIn O y → keyIn (putA O s 1) y := fun y ⟨v, hv⟩ => ⟨v, by rw [e]; exact List.mem_cons_of_mem _ hv⟩
 refine ⟨putA_nodup h.nd s 1, fun p hp => ?_, h.list, ?_, fun y hy e2 he => ?_, ?_, .inr ⟨hself, fun _ hh => hh⟩⟩
 ·rw [e] at hp
  rcases List.mem_cons.1 hp with rfl | hp
  ·exact ⟨rfl, h.list _ (List.mem_of_getElem? hs)⟩
  ·exact h.one p hp
 ·rcases h.start with c | c
  ·exact .inl (hold _ c)
  ·rcases drop_next hs c with rfl | c
   ·exact .inl hself
   ·exact .inr c
 ·by_cases q : y = s
  ·rw [q] at he; exact .inl ⟨q, he⟩
  ·have hy2 : keyIn O y := by
    obtain ⟨v, hv⟩ := hy
    rw [e] at hv
    rcases List.mem_cons.1 hv with hv | hv
    ·exact absurd (Prod.mk.inj hv).1 q
    ·exact ⟨v, hv⟩
   rcases h.next y hy2 e2 he with ⟨_, c⟩ | c | c
   ·exact absurd c List.not_mem_nil
   ·exact .inr (.inl (hold _ c))
   ·rcases drop_next hs c with c | c
    ·exact .inr (.inl (by rw [c]; exact hself))
    ·exact .inr (.inr c)
 ·rw [hlen]
  have h1 := h.len
  have h2 := edges_len k s
  simp only [List.length_nil] at h1
  omega
theorem SInv.drop {e : Edge} (h : SInv k s0 O l i x (e :: rest)) (hk : keyIn O e.1) : SInv k s0 O l i x rest :=
 ⟨h.nd, h.one, h.list, h.start, fun y hy e2 he => by
  rcases h.next y hy e2 he with ⟨c1, c2⟩ | c | c
  ·rcases List.mem_cons.1 c2 with c2 | c2
   ·exact .inr (.inl (by rw [c2]; exact hk))
   ·exact .inl ⟨c1, c2⟩
  ·exact .inr (.inl c)
  ·exact .inr (.inr c), by have := h.len; simp only [List.length_cons] at this; omega, by
  rcases h.cur with c | c
  ·cases c
  ·exact .inr ⟨c.1, fun e2 he => c.2 e2 (List.mem_cons_of_mem _ he)⟩⟩
theorem SInv.any (h : SInv k s0 O l i x []) (y : Sd) : SInv k s0 O l i y [] :=
 ⟨h.nd, h.one, h.list, h.start, fun z hz e he => (h.next z hz e he).imp (fun c => absurd c.2 List.not_mem_nil) (fun c => c), h.len, .inl rfl⟩
end
end Go.Proofs.Ytlhodfjdmafapaa
end
section
namespace Go.Proofs.Ytlhodfjdmafapaa
open Go.RowKit Go.Proofs.YtlhodfjdmafapaaW.PrintWords Go.Proofs.YtlhodfjdmafapaaW.PrintLast
set_option linter.unusedVariables false
set_option linter.unusedSimpArgs false
/-- a comes before b -/
def beforeB (a b : Nat → Int) : Bool := if a 0 = b 0 then (if a 1 = b 1 then (if a 2 = b 2 then decide (a 3 < b 3) else decide (a 2 < b 2)) else decide (a 1 < b 1)) else decide (a 0 < b 0)
set_option maxHeartbeats 1600000 in
theorem l2Before_any (a b : Nat → Int) (w : World) : Calls Try.prog 87 #[A4 a, A4 b] w fun e w' => e = .returned (.bool (beforeB a b)) ∧ Below w.heap.size w w' := by
 go_enter Try.func87, Try.ntmps87
 go_wp2_with fail
 refine wp_loop_rounds 5 ?_
 go_wp2_with (first | (go_quiet (fail)) | (rw [rounds_succ]))
 all_goals (go_ret; exact ⟨ret_bool (by simp_all [beforeB]), by (repeat first | (with_reducible assumption) | (with_reducible exact Below.refl _ _) | ((with_reducible refine bl_alloc _ ?_ ?_); focus (first | (simp; done) | (simp; omega) | omega)) | ((with_reducible refine bl_set _ ?_ ?_); focus (first | (simp; done) | (simp; omega) | omega)) | (with_reducible refine Below.drew ?_) | (with_reducible refine bl_drewN _ ?_))⟩)
end Go.Proofs.Ytlhodfjdmafapaa
end
section
namespace Go.Proofs.Ytlhodfjdmafapaa
open Go.RowKit
set_option linter.unusedVariables false
set_option linter.unusedSimpArgs false
/-- a comes before b -/
def lt4 (a b : Sd) : Bool := beforeB (fn4 a) (fn4 b)
theorem lt4_iff (a b : Sd) : lt4 a b = true ↔ a.1 < b.1 ∨ (a.1 = b.1 ∧ (a.2.1 < b.2.1 ∨ (a.2.1 = b.2.1 ∧ (a.2.2.1 < b.2.2.1 ∨ (a.2.2.1 = b.2.2.1 ∧ a.2.2.2 < b.2.2.2))))) := by
 have e : lt4 a b = (if a.1 = b.1 then (if a.2.1 = b.2.1 then (if a.2.2.1 = b.2.2.1 then decide (a.2.2.2 < b.2.2.2) else decide (a.2.2.1 < b.2.2.1)) else decide (a.2.1 < b.2.1)) else decide (a.1 < b.1)) := rfl
 rw [e]
 split
 ·split
  ·split
   ·rw [decide_eq_true_eq]; omega
   ·rw [decide_eq_true_eq]; omega
  ·rw [decide_eq_true_eq]; omega
 ·rw [decide_eq_true_eq]; omega
theorem lt4_irrefl (a : Sd) : ¬ lt4 a a = true := by rw [lt4_iff]; omega
theorem lt4_trans {a b c : Sd} (h1 : lt4 a b = true) (h2 : lt4 b c = true) : lt4 a c = true := by rw [lt4_iff] at *; omega
theorem sd_ext {a b : Sd} (h0 : a.1 = b.1) (h1 : a.2.1 = b.2.1) (h2 : a.2.2.1 = b.2.2.1) (h3 : a.2.2.2 = b.2.2.2) : a = b := by
 obtain ⟨a0, a1, a2, a3⟩ := a
 obtain ⟨b0, b1, b2, b3⟩ := b
 simp only at h0 h1 h2 h3
 rw [h0, h1, h2, h3]
theorem lt4_total {a b : Sd} (h : ¬ lt4 a b = true) (hn : a ≠ b) : lt4 b a = true := by
 rw [lt4_iff] at *
 by_cases c0 : a.1 = b.1
 ·by_cases c1 : a.2.1 = b.2.1
  ·by_cases c2 : a.2.2.1 = b.2.2.1
   ·by_cases c3 : a.2.2.2 = b.2.2.2
    ·exact absurd (sd_ext c0 c1 c2 c3) hn
    ·omega
   ·omega
  ·omega
 ·omega
abbrev Srt (l : List Sd) : Prop := l.Pairwise fun a b => lt4 a b = true
theorem srt_ext : ∀ {l l' : List Sd}, Srt l → Srt l' → (∀ x, x ∈ l ↔ x ∈ l') → l = l'
 | [], [], _, _, _ => rfl
 | [], b :: l', _, _, h => by have := (h b).2 List.mem_cons_self; cases this
 | a :: l, [], _, _, h => by have := (h a).1 List.mem_cons_self; cases this
 | a :: l, b :: l', h1, h2, h => by
  obtain ⟨ha, hl⟩ := List.pairwise_cons.1 h1
  obtain ⟨hb, hl'⟩ := List.pairwise_cons.1 h2
  have e : a = b := by
   rcases List.mem_cons.1 ((h a).1 List.mem_cons_self) with c | c
   ·exact c
   ·rcases List.mem_cons.1 ((h b).2 List.mem_cons_self) with d | d
    ·exact d.symm
    ·exact absurd (lt4_trans (ha b d) (hb a c)) (lt4_irrefl a)
  subst e
  rw [srt_ext hl hl' (fun x => ?_)]
  constructor
  ·intro hx
   rcases List.mem_cons.1 ((h x).1 (List.mem_cons_of_mem _ hx)) with c | c
   ·subst c; exact absurd (ha _ hx) (lt4_irrefl _)
   ·exact c
  ·intro hx
   rcases List.mem_cons.1 ((h x).2 (List.mem_cons_of_mem _ hx)) with c | c
   ·subst c; exact absurd (hb _ hx) (lt4_irrefl _)
   ·exact c
/-- a sand is put to its place -/
def insL : List Sd → Sd → List Sd
 | [], s => [s]
 | a :: l, s => if lt4 a s = true then a :: insL l s else if a = s then a :: l else s :: a :: l
theorem insL_mem (x s : Sd) : ∀ l, x ∈ insL l s ↔ x ∈ l ∨ x = s
 | [] => by simp [insL]
 | a :: l => by
  unfold insL
  split
  ·rw [List.mem_cons, List.mem_cons, insL_mem x s l]
   constructor
   ·rintro (h | h | h)
    ·exact .inl (.inl h)
    ·exact .inl (.inr h)
    ·exact .inr h
   ·rintro ((h | h) | h)
    ·exact .inl h
    ·exact .inr (.inl h)
    ·exact .inr (.inr h)
  ·split
   ·rename_i e
    subst e
    constructor
    ·exact .inl
    ·rintro (h | rfl)
     ·exact h
     ·exact List.mem_cons_self
   ·rw [List.mem_cons, List.mem_cons]
    constructor
    ·rintro (h | h)
     ·exact .inr h
     ·exact .inl h
    ·rintro (h | h)
     ·exact .inr h
     ·exact .inl h
theorem insL_srt (s : Sd) : ∀ {l}, Srt l → Srt (insL l s)
 | [], _ => by simp [insL]
 | a :: l, h => by
  obtain ⟨ha, hl⟩ := List.pairwise_cons.1 h
  unfold insL
  split
  ·rename_i c
   refine List.pairwise_cons.2 ⟨fun y hy => ?_, insL_srt s hl⟩
   rcases (insL_mem y s l).1 hy with hy | rfl
   ·exact ha y hy
   ·exact c
  ·split
   ·exact h
   ·rename_i c d
    have hs := lt4_total c d
    refine List.pairwise_cons.2 ⟨fun y hy => ?_, h⟩
    rcases List.mem_cons.1 hy with rfl | hy
    ·exact hs
    ·exact lt4_trans hs (ha y hy)
theorem insL_at (s : Sd) : ∀ (n : Nat) (l : List Sd), n ≤ l.length → (∀ j x, j < n → l[j]? = some x → lt4 x s = true) → insL l s = l.take n ++ insL (l.drop n) s
 | 0, l, _, _ => by simp
 | n + 1, [], h, _ => by simp at h
 | n + 1, a :: l, h, hj => by
  rw [insL, if_pos (hj 0 a (by omega) rfl), insL_at s n l (by simpa using h) (fun j x hjn hx => hj (j + 1) x (by omega) (by simpa using hx))]
  rfl
theorem insL_end {s : Sd} {l : List Sd} (h : ∀ j x, j < l.length → l[j]? = some x → lt4 x s = true) : insL l s = l.take l.length ++ (s :: l.drop l.length) := by
 rw [insL_at s l.length l (Nat.le_refl _) h, List.drop_length]
 rfl
theorem insL_in {s : Sd} {l : List Sd} {n : Nat} (hn : n < l.length) (h : ∀ j x, j < n → l[j]? = some x → lt4 x s = true) (e : l[n]? = some s) : insL l s = l := by
 rw [insL_at s n l (by omega) h]
 have hd : l.drop n = s :: l.drop (n + 1) := by
  rw [List.drop_eq_getElem_cons hn]
  rw [List.getElem?_eq_getElem hn] at e
  rw [Option.some.inj e]
 rw [hd, insL, if_neg (lt4_irrefl s), if_pos rfl, ← hd, List.take_append_drop]
theorem insL_new {s x : Sd} {l : List Sd} {n : Nat} (hn : n < l.length) (h : ∀ j x, j < n → l[j]? = some x → lt4 x s = true) (e : l[n]? = some x) (h1 : ¬ lt4 x s = true) (h2 : x ≠ s) : insL l s = l.take n ++ (s :: l.drop n) := by
 rw [insL_at s n l (by omega) h]
 have hd : l.drop n = x :: l.drop (n + 1) := by
  rw [List.drop_eq_getElem_cons hn]
  rw [List.getElem?_eq_getElem hn] at e
  rw [Option.some.inj e]
 rw [hd, insL, if_neg h1, if_neg h2]
/-! sands within some steps -/
/-- a step leads from one of them -/
def SucB (k : Nat → Int) (S : Sd → Prop) (x : Sd) : Prop := ∃ y, S y ∧ ∃ set ∈ setsL k, 0 < goD k y set ∧ x = goS k y set
def WIn (k : Nat → Int) (s : Sd) : Nat → Sd → Prop
 | 0, x => x = s
 | n + 1, x => WIn k s n x ∨ SucB k (WIn k s n) x
theorem SucB.mono {k : Nat → Int} {S S' : Sd → Prop} {x : Sd} (h : SucB k S x) (hS : ∀ y, S y → S' y) : SucB k S' x := let ⟨y, h1, h2⟩ := h; ⟨y, hS y h1, h2⟩
theorem SucB.sand {k : Nat → Int} {S : Sd → Prop} {x : Sd} (h : SucB k S x) (hS : ∀ y, S y → Sand k (fn4 y)) : Sand k (fn4 x) := by
 obtain ⟨y, h1, set, h2, h3, rfl⟩ := h
 exact sand_tup ((hS y h1).step set)
theorem WIn.sand {k : Nat → Int} {s : Sd} (hs : Sand k (fn4 s)) : ∀ (n : Nat) {x : Sd}, WIn k s n x → Sand k (fn4 x)
 | 0, x, h => by rw [show x = s from h]; exact hs
 | n + 1, x, h => by
  rcases h with h | h
  ·exact WIn.sand hs n h
  ·exact h.sand (fun y hy => WIn.sand hs n hy)
/-- the sands within some steps, in order -/
def IsW (k : Nat → Int) (s : Sd) (n : Nat) (l : List Sd) : Prop := Srt l ∧ ∀ x, x ∈ l ↔ WIn k s n x
noncomputable def sandsL (k : Nat → Int) (s : Sd) (n : Nat) : List Sd := open Classical in if h : ∃ l, IsW k s n l then h.choose else []
theorem sandsL_is {k : Nat → Int} {s : Sd} {n : Nat} {l : List Sd} (h : IsW k s n l) : l = sandsL k s n := by
 have he : ∃ l, IsW k s n l := ⟨l, h⟩
 have hc : IsW k s n (sandsL k s n) := by
  unfold sandsL
  rw [dif_pos he]
  exact he.choose_spec
 exact srt_ext h.1 hc.1 (fun x => (h.2 x).trans (hc.2 x).symm)
theorem srt_nodup {l : List Sd} (h : Srt l) : l.Pairwise fun a b => a ≠ b := h.imp fun {a b} hab => by
 intro e
 subst e
 exact lt4_irrefl _ hab
theorem nd_len {k : Nat → Int} (hk : ∀ i, i < 4 → 0 ≤ k i ∧ k i ≤ 30) {l : List Sd} (hn : l.Pairwise fun a b => a ≠ b) (hs : ∀ x ∈ l, Sand k (fn4 x)) : l.length ≤ 923521 := by
 have h := few31s hk (M := l.map fun x => (x, (0 : Int))) (by
  show ((l.map fun x => (x, (0 : Int)))).Pairwise fun p q => p.1 ≠ q.1
  rw [List.pairwise_map]
  exact hn) (fun p hp => by
  obtain ⟨x, hx, rfl⟩ := List.mem_map.1 hp
  exact hs x hx)
 simpa using h
/-- one round of the reference under way: the first i sands are done, of the next one the sets below j -/
structure SInvR (k : Nat → Int) (all more : List Sd) (i j : Nat) : Prop where
 srt : Srt more
 mem : ∀ x, x ∈ more ↔ x ∈ all ∨ SucB k (fun y => y ∈ all.take i) x ∨ ∃ y, all[i]? = some y ∧ ∃ set ∈ setsL k, set < (j : Int) ∧ 0 < goD k y set ∧ x = goS k y set
theorem SInvR.start {k : Nat → Int} {all : List Sd} (h : Srt all) : SInvR k all all 0 0 := ⟨h, fun x => by
 constructor
 ·exact .inl
 ·rintro (h | ⟨y, h1, _⟩ | ⟨y, _, set, h2, h3, _⟩)
  ·exact h
  ·simp at h1
  ·have := (setsL_mem h2).1; omega⟩
theorem SInvR.skip {k : Nat → Int} {all more : List Sd} {i j : Nat} (h : SInvR k all more i j) {y : Sd} (hy : all[i]? = some y) (hn : ¬ ((j : Int) ∈ setsL k ∧ 0 < goD k y j)) : SInvR k all more i (j + 1) := ⟨h.srt, fun x => by
 rw [h.mem x]
 constructor
 ·rintro (c | c | ⟨z, c1, set, c2, c3, c4⟩)
  ·exact .inl c
  ·exact .inr (.inl c)
  ·exact .inr (.inr ⟨z, c1, set, c2, by omega, c4⟩)
 ·rintro (c | c | ⟨z, c1, set, c2, c3, c4, c5⟩)
  ·exact .inl c
  ·exact .inr (.inl c)
  ·by_cases q : set = (j : Int)
   ·rw [hy] at c1
    have e := Option.some.inj c1
    subst e
    subst q
    exact absurd ⟨c2, c4⟩ hn
   ·exact .inr (.inr ⟨z, c1, set, c2, by omega, c4, c5⟩)⟩
theorem SInvR.add {k : Nat → Int} {all more : List Sd} {i j : Nat} (h : SInvR k all more i j) {y : Sd} (hy : all[i]? = some y) (h1 : (j : Int) ∈ setsL k) (h2 : 0 < goD k y j) : SInvR k all (insL more (goS k y j)) i (j + 1) := ⟨insL_srt _ h.srt, fun x => by
 rw [insL_mem, h.mem x]
 constructor
 ·rintro ((c | c | ⟨z, c1, set, c2, c3, c4⟩) | rfl)
  ·exact .inl c
  ·exact .inr (.inl c)
  ·exact .inr (.inr ⟨z, c1, set, c2, by omega, c4⟩)
  ·exact .inr (.inr ⟨y, hy, j, h1, by omega, h2, rfl⟩)
 ·rintro (c | c | ⟨z, c1, set, c2, c3, c4, c5⟩)
  ·exact .inl (.inl c)
  ·exact .inl (.inr (.inl c))
  ·by_cases q : set = (j : Int)
   ·rw [hy] at c1
    have e := Option.some.inj c1
    subst e
    subst q
    exact .inr c5
   ·exact .inl (.inr (.inr ⟨z, c1, set, c2, by omega, c4, c5⟩))⟩
theorem take_mem {all : List Sd} {i : Nat} {y z : Sd} (hy : all[i]? = some y) : z ∈ all.take (i + 1) ↔ z ∈ all.take i ∨ z = y := by
 rw [List.take_add_one, hy]
 simp
theorem SInvR.turn {k : Nat → Int} {all more : List Sd} {i : Nat} (h : SInvR k all more i 16) {y : Sd} (hy : all[i]? = some y) : SInvR k all more (i + 1) 0 := ⟨h.srt, fun x => by
 rw [h.mem x]
 constructor
 ·rintro (c | ⟨z, c1, c2⟩ | ⟨z, c1, set, c2, c3, c4⟩)
  ·exact .inl c
  ·exact .inr (.inl ⟨z, (take_mem hy).2 (.inl c1), c2⟩)
  ·rw [hy] at c1
   have e := Option.some.inj c1
   subst e
   exact .inr (.inl ⟨_, (take_mem hy).2 (.inr rfl), set, c2, c4⟩)
 ·rintro (c | ⟨z, c1, c2⟩ | ⟨z, c1, set, c2, c3, c4⟩)
  ·exact .inl c
  ·rcases (take_mem hy).1 c1 with c1 | rfl
   ·exact .inr (.inl ⟨z, c1, c2⟩)
   ·obtain ⟨set, d1, d2⟩ := c2
    have := setsL_mem d1
    exact .inr (.inr ⟨z, hy, set, d1, by omega, d2⟩)
  ·have := (setsL_mem c2).1; omega⟩
theorem SInvR.done {k : Nat → Int} {s : Sd} {n : Nat} {all more : List Sd} (h : SInvR k all more all.length 0) (hw : IsW k s n all) : IsW k s (n + 1) more := ⟨h.srt, fun x => by
 rw [h.mem x, List.take_length]
 show _ ↔ WIn k s n x ∨ SucB k (WIn k s n) x
 rw [hw.2 x]
 constructor
 ·rintro (c | c | ⟨z, _, set, c2, c3, _⟩)
  ·exact .inl c
  ·exact .inr (c.mono fun y hy => (hw.2 y).1 hy)
  ·have := (setsL_mem c2).1; omega
 ·rintro (c | c)
  ·exact .inl c
  ·exact .inr (.inl (c.mono fun y hy => (hw.2 y).2 hy))⟩
theorem SInvR.sand {k : Nat → Int} {all more : List Sd} {i j : Nat} (h : SInvR k all more i j) (hs : ∀ x ∈ all, Sand k (fn4 x)) : ∀ x ∈ more, Sand k (fn4 x) := fun x hx => by
 rcases (h.mem x).1 hx with c | c | ⟨y, c1, set, c2, c3, c4, rfl⟩
 ·exact hs x c
 ·exact c.sand (fun y hy => hs y (List.mem_of_mem_take hy))
 ·exact sand_tup ((hs y (List.mem_of_getElem? c1)).step set)
end Go.Proofs.Ytlhodfjdmafapaa
end
section
namespace Go.Proofs.Ytlhodfjdmafapaa
open Go.RowKit Go.Maps Go.WideShapes Go.Proofs.YtlhodfjdmafapaaW.PrintWords Go.Proofs.YtlhodfjdmafapaaW.PrintLast
set_option linter.unusedVariables false
set_option linter.unusedSimpArgs false
/-- a row of a flat kind depends on its own block alone -/
def Flat {β : Type} (d : Kd β) : Prop := ∀ (w : World) (base : Nat) (ok1 ok2 : Nat → Prop) (x : β) (cs : List Value), d.M w base ok1 x cs → d.M w base ok2 x cs
theorem R_only {β : Type} {d : Kd β} (hd : Flat d) {e base : Nat} {ok : Nat → Prop} {w w1 : World} {v : Value} {xs : List β} (h : d.R e w base ok v xs) (hm : ∀ k, v.ownBlock = some k → w1.heap[k]? = w.heap[k]?) : d.R e w1 base ok v xs :=
 Kd.R_mono (Kd.R_move (Kd.R_flat (ok' := fun k => ok k ∧ v.ownBlock = some k) (fun {ok1 ok2 x cs} => hd w base ok1 ok2 x cs) h (fun k hk ho => ⟨ho, hk⟩)) (fun k hk => hm k hk.2)) (fun k hk => hk.1)
section
variable {P : Program} {k : TypeId} {α β : Type}
/-- a map of rows, each row its own block, one for which ok says yes -/
structure QL (M : MapKd P k α Value) (d : Kd β) (e : TypeId) (w : World) (b base : Nat) (ok : Nat → Prop) (n : Nat) (Q : α → List β) (L : List (α × Value)) : Prop where
 own : M.own w b n L
 row : ∀ p ∈ L, d.R e w base ok p.2 (Q p.1)
 none : ∀ x, getA L x = none → Q x = []
 apart : L.Pairwise fun p q => ∀ j, p.2.ownBlock = some j → q.2.ownBlock ≠ some j
section
variable {M : MapKd P k α Value} {d : Kd β} {e : TypeId} {w w' : World} {b base n : Nat} {ok : Nat → Prop} {Q : α → List β} {L : List (α × Value)}
theorem QL.below (h : QL M d e w b base ok n Q L) (hb : Below w.heap.size w w') : QL M d e w' b base ok n Q L :=
 ⟨MapKd.own_below h.own hb, fun p hp => Kd.R_below (h.row p hp) hb, h.none, h.apart⟩
/-- the row at x -/
theorem QL.at {x : α} {v : Value} (h : QL M d e w b base ok n Q L) (g : (getA L x).getD (.slice .none 0 0) = v) : d.R e w base ok v (Q x) := by
 subst g
 cases g : getA L x with
 | none => rw [h.none x g]; exact Kd.R_nil _ _ _ _ _
 | some v => exact h.row _ (getA_some g)
theorem QL.map {g : Nat} (h : QL M d e w b base ok n Q L) (hg : w.grownBy w' (some g)) (hne : g ≠ b) (hm : ∃ es c, w.heap[g]? = some (.map es c)) : QL M d e w' b base ok n Q L := by
 obtain ⟨es, c, hm⟩ := hm
 refine ⟨MapKd.own_kept h.own hg (fun e => hne (Option.some.inj e).symm), fun p hp => ?_, h.none, h.apart⟩
 have hr := h.row p hp
 refine Kd.R_mono (Kd.R_grown (Kd.R_mono (Kd.R_bound hr) (ok' := fun k => ok k ∧ k ≠ g) (fun j hj => ⟨hj.1, fun e => ?_⟩)) hg (fun j hj e => hj.2 (Option.some.inj e))) (fun _ hj => hj.1)
 obtain ⟨_, _, _, q, _, cells, hc⟩ := hj
 rw [e, hm] at hc
 cases hc
theorem QL.lt (h : QL M d e w b base ok n Q L) : b < w.heap.size := MapKd.own_lt h.own
theorem QL.is (h : QL M d e w b base ok n Q L) : ∃ es c, w.heap[b]? = some (.map es c) := MapKd.own_is h.own
theorem QL.mono {n' : Nat} (h : QL M d e w b base ok n Q L) (hn : n ≤ n') : QL M d e w b base ok n' Q L := ⟨MapKd.own_mono h.own hn, h.row, h.none, h.apart⟩
theorem QL.congr {Q' : α → List β} (h : QL M d e w b base ok n Q L) (hQ : ∀ x, Q x = Q' x) : QL M d e w b base ok n Q' L := (show Q = Q' from funext hQ) ▸ h
end
section ops
variable (w : World) {ops : Array Oper} {rest : List Oper} {o : Oper} {a : Act} {K : Exit → Act → World → Prop}
end ops
end
/-! rows of sands; maps from times to them -/
def k4 : Kd Sd := Kd.pair (Kd.int .i64) (Kd.pair (Kd.int .i64) (Kd.pair (Kd.int .i64) (Kd.int .i64)))
theorem flat4 : Flat k4 := fun _ _ _ _ _ _ h => h
theorem k4_open {w : World} {x : Sd} {cs : List Value} (h : k4.K w x cs) : cs = [.int .i64 x.1, .int .i64 x.2.1, .int .i64 x.2.2.1, .int .i64 x.2.2.2] := by
 obtain ⟨_, _, rfl, rfl, ⟨_, _, rfl, rfl, ⟨_, _, rfl, rfl, rfl⟩⟩⟩ := h
 exact rfl
theorem k4_mk (w : World) (x : Sd) : k4.K w x [.int .i64 x.1, .int .i64 x.2.1, .int .i64 x.2.2.1, .int .i64 x.2.2.2] := ⟨[.int .i64 x.1], [.int .i64 x.2.1, .int .i64 x.2.2.1, .int .i64 x.2.2.2], rfl, rfl, ⟨[.int .i64 x.2.1], [.int .i64 x.2.2.1, .int .i64 x.2.2.2], rfl, rfl, ⟨[.int .i64 x.2.2.1], [.int .i64 x.2.2.2], rfl, rfl, rfl⟩⟩⟩
theorem k4_mkM (w : World) (base : Nat) (ok : Nat → Prop) (x : Sd) : k4.M w base ok x [.int .i64 x.1, .int .i64 x.2.1, .int .i64 x.2.2.1, .int .i64 x.2.2.2] := ⟨[.int .i64 x.1], [.int .i64 x.2.1, .int .i64 x.2.2.1, .int .i64 x.2.2.2], rfl, rfl, ⟨[.int .i64 x.2.1], [.int .i64 x.2.2.1, .int .i64 x.2.2.2], rfl, rfl, ⟨[.int .i64 x.2.2.1], [.int .i64 x.2.2.2], rfl, rfl, rfl⟩⟩⟩
theorem at_k4 {w : World} {A : Option Addr} {n : Nat} {xs : List Sd} (h : Kd.C k4 w A n xs) (i : Nat) (s : Sd) (hs : xs[i]? = some s) : ∃ ad, A = some ad ∧ w.cell? (ad.add (i * 4)) = some (.int .i64 s.1) ∧ w.cell? ⟨(ad.add (i * 4)).block, (ad.add (i * 4)).off + 1, none⟩ = some (.int .i64 s.2.1) ∧ w.cell? ⟨(ad.add (i * 4)).block, (ad.add (i * 4)).off + 2, none⟩ = some (.int .i64 s.2.2.1) ∧ w.cell? ⟨(ad.add (i * 4)).block, (ad.add (i * 4)).off + 3, none⟩ = some (.int .i64 s.2.2.2) := by
 have hl : i < xs.length := by
  rcases Nat.lt_or_ge i xs.length with q | q
  ·exact q
  ·rw [List.getElem?_eq_none q] at hs; cases hs
 obtain ⟨ad, c, e, _, hK, hc0⟩ := Kd.C_get h (0, 0, 0, 0) (i : Int) (by omega) (by have := Kd.C_len h; omega)
 have hc : ∀ j u, c[j]? = some u → w.cell? (ad.add (i * 4 + j)) = some u := hc0
 rw [show xs.getD (i : Int).toNat (0, 0, 0, 0) = s by rw [Int.toNat_natCast, List.getD_eq_getElem?_getD, hs]; rfl] at hK
 obtain rfl := k4_open hK
 exact ⟨ad, e, hc 0 _ rfl, by rw [← add_field _ _ 1 (by omega)]; exact hc 1 _ rfl, by rw [← add_field _ _ 2 (by omega)]; exact hc 2 _ rfl, by rw [← add_field _ _ 3 (by omega)]; exact hc 3 _ rfl⟩
def mkT : MapKd Try.prog 3 Int Value where
 eK := fun t => .int .i64 t
 lK := fun t => .int .i64 t
 good := fun t => 0 ≤ t ∧ t ≤ 4000000000
 eV := fun v => v
 law := int_keyed Try.underlying3
 key := fun t h => keyOf_int_mk Try.underlying3 (WalkArith.wf_i64 (by omega))
 inj := fun x y _ _ e => by injection e
 vinj := fun _ _ e => e
end Go.Proofs.Ytlhodfjdmafapaa
end
section
namespace Go.Proofs.Ytlhodfjdmafapaa
open Go.RowKit Go.Proofs.YtlhodfjdmafapaaW.PrintWords Go.Proofs.YtlhodfjdmafapaaW.PrintLast
set_option linter.unusedVariables false
set_option linter.unusedSimpArgs false
theorem info4p : (Try.prog.info? 22).map (fun i => (i.zero, i.size, i.bytes)) = some (some (.agg #[(.int .i64 0), (.int .i64 0), (.int .i64 0), (.int .i64 0)]), 4, 32) := by kernel_rfl
theorem part_run (a b c d : Int) (i : Nat) (W : World) (hi : i < 4) : (part 3 #[.int .i64 a, .int .i64 b, .int .i64 c, .int .i64 d] (i * 1)).run Try.prog W = .ok (.int .i64 (([a, b, c, d] : List Int).getD i 0)) W := by
 obtain rfl | rfl | rfl | rfl : i = 0 ∨ i = 1 ∨ i = 2 ∨ i = 3 := by omega
 all_goals kernel_rfl
theorem eq4_gen (D : Nat) (hi : ∀ (a b : Int) (W : World), (Op.equalIn D 3 (.int .i64 a) (.int .i64 b)).run Try.prog W = .ok (a == b) W) (x0 x1 x2 x3 s0 s1 s2 s3 : Int) (W : World) : (Op.equalIn (D + 1) 22 (.agg #[.int .i64 x0, .int .i64 x1, .int .i64 x2, .int .i64 x3]) (.agg #[.int .i64 s0, .int .i64 s1, .int .i64 s2, .int .i64 s3])).run Try.prog W = .ok (x0 == s0 && (x1 == s1 && (x2 == s2 && x3 == s3))) W := by
 have hz : ∀ W : World, (Go.sizeOf 3).run Try.prog W = .ok 1 W := fun _ => by kernel_rfl
 have p0 := fun W => part_run x0 x1 x2 x3 0 W (by omega)
 have p1 := fun W => part_run x0 x1 x2 x3 1 W (by omega)
 have p2 := fun W => part_run x0 x1 x2 x3 2 W (by omega)
 have p3 := fun W => part_run x0 x1 x2 x3 3 W (by omega)
 have q0 := fun W => part_run s0 s1 s2 s3 0 W (by omega)
 have q1 := fun W => part_run s0 s1 s2 s3 1 W (by omega)
 have q2 := fun W => part_run s0 s1 s2 s3 2 W (by omega)
 have q3 := fun W => part_run s0 s1 s2 s3 3 W (by omega)
 simp only [List.getD_eq_getElem?_getD, List.getElem?_cons_zero, List.getElem?_cons_succ, Option.getD_some] at p0 p1 p2 p3 q0 q1 q2 q3
 simp only [Op.equalIn, Sem.run_bind, run_underlying Try.underlying22, Result.andThen_ok, hz]
 simp only [Std.Legacy.Range.forIn_eq_forIn_range', Std.Legacy.Range.size, List.range']
 simp only [List.forIn_cons, List.forIn_nil, Sem.run_bind, Sem.run_ite, Result.andThen_ok, p0, p1, p2, p3, q0, q1, q2, q3, hi]
 have e1 : 0 + 1 = 1 := rfl
 have e2 : 1 + 1 = 2 := rfl
 have e3 : 2 + 1 = 3 := rfl
 generalize (x0 == s0) = b0
 cases b0
 ·simp
 simp only [Bool.not_true, Bool.false_eq_true, if_false, Sem.run_pure, Sem.run_bind, Sem.run_ite, Result.andThen_ok, e1, e2, e3, p1, q1, hi]
 generalize (x1 == s1) = b1
 cases b1
 ·simp
 simp only [Bool.not_true, Bool.false_eq_true, if_false, Sem.run_pure, Sem.run_bind, Sem.run_ite, Result.andThen_ok, e1, e2, e3, p2, q2, hi]
 generalize (x2 == s2) = b2
 cases b2
 ·simp
 simp only [Bool.not_true, Bool.false_eq_true, if_false, Sem.run_pure, Sem.run_bind, Sem.run_ite, Result.andThen_ok, e1, e2, e3, p3, q3, hi]
 generalize (x3 == s3) = b3
 cases b3 <;> simp
theorem eq4_run (x0 x1 x2 x3 s0 s1 s2 s3 : Int) (W : World) : (Op.equalIn 10000 22 (.agg #[.int .i64 x0, .int .i64 x1, .int .i64 x2, .int .i64 x3]) (.agg #[.int .i64 s0, .int .i64 s1, .int .i64 s2, .int .i64 s3])).run Try.prog W = .ok (x0 == s0 && (x1 == s1 && (x2 == s2 && x3 == s3))) W :=
 eq4_gen 9999 (fun a b W => run_equalIn_int W 9998 3 .i64 .i64 a b Try.underlying3) x0 x1 x2 x3 s0 s1 s2 s3 W
theorem guard4 : (Try.prog).eqGuardType (Try.prog).depth 22 = false := by kernel_rfl
theorem addz (g j : Nat) : Addr.add ⟨g, 0, none⟩ j = ⟨g, j, none⟩ := by
 cases j with
 | zero => rfl
 | succ j => simp [Addr.add]
theorem cellsOf4 {w : World} {base g c : Nat} {ok : Nat → Prop} {l : List Sd} (h : k4.R 22 w base ok (.slice (some ⟨g, 0, none⟩) l.length c) l) {n : Nat} {x : Sd} (hx : l[n]? = some x) : w.cell? ⟨g, n * 4, none⟩ = some (.int .i64 x.1) ∧ w.cell? ⟨g, n * 4 + 1, none⟩ = some (.int .i64 x.2.1) ∧ w.cell? ⟨g, n * 4 + 2, none⟩ = some (.int .i64 x.2.2.1) ∧ w.cell? ⟨g, n * 4 + 3, none⟩ = some (.int .i64 x.2.2.2) := by
 obtain ⟨ae, e, h0, h1, h2, h3⟩ := at_k4 (Kd.R_reads' h).2.2 n x hx
 obtain rfl := Option.some.inj e
 rw [addz] at h0 h1 h2 h3
 exact ⟨h0, h1, h2, h3⟩
theorem gate_if {P : Program} {o : Oper} {a : Act} {W : World} {K : Act → World → Prop} {Q : Exit → Act → World → Prop} {E : Prop} {Y : Nat → Option Bool} {N : Tmp} (_hN : o.dst = some N) (h : if Region.wanted o Y = true then Oper.wp P o a W K Q else E) : if Region.wanted o Y = true then Oper.wp P o a W K Q else E := h
theorem take_reads4 {W : World} {base g n cp : Nat} {ok : Nat → Prop} {l : List Sd} (h : k4.R 22 W base ok (.slice (some ⟨g, 0, none⟩) l.length cp) l) (hn : n ≤ l.length) : ReadsRow (k4.K W) k4.sz W (some ⟨g, 0, none⟩) n (l.take n) := by
 have := (Kd.R_reads' (Kd.R_take h hn)).2.2
 rw [show (l.take n).length = n by rw [List.length_take]; omega] at this
 exact this
theorem absorb {T G : Prop} (h : T) (k : T → G) : G := k h
theorem new_at {w : World} {o : Obj} {b : Nat} (h : w.heap.size = b) : (w.alloc o).heap[b]? = some o := h ▸ heap_alloc_new w o
theorem row_empty {W : World} {base b : Nat} (h : W.heap[b]? = some (.cells #[] 22 (0, 0))) (hb : base ≤ b) : k4.R 22 W base (fun _ => True) (.slice (some ⟨b, 0, none⟩) 0 0) [] := by
 refine ⟨fun j hj => trivial, [], ⟨by simp [maxLen], .inr ⟨b, 0, #[], rfl, hb, h, by simp, by simp [maxLen], by simp, by simp⟩⟩, Reps.none _ _⟩
theorem k4_flat {W : World} {base : Nat} {ok : Nat → Prop} : ∀ x cs, k4.K W x cs → k4.M W base ok x cs := fun x cs h => by
 rw [k4_open h]
 exact k4_mkM _ _ _ _
theorem lit_reads4 {W : World} {b : Nat} {s0 s1 s2 s3 : Int} (h : W.heap[b]? = some (.cells #[.int .i64 s0, .int .i64 s1, .int .i64 s2, .int .i64 s3] 22 (0, 0))) : ReadsRow (k4.K W) k4.sz W (some ⟨b, 0, none⟩) 1 [((s0, s1, s2, s3) : Sd)] := by
 refine ⟨rfl, by omega, fun _ => ⟨_, rfl, fun j p hp => ?_⟩⟩
 cases j with
 | succ j => simp at hp
 | zero =>
  obtain rfl := (Option.some.inj hp).symm
  refine ⟨_, rfl, k4_mk W _, fun i u hu => ?_⟩
  rw [Nat.zero_mul, Nat.zero_add, addz, blk_cell h]
  simpa using hu
theorem drop_reads4 {W : World} {g n m : Nat} {l : List Sd} (h : Kd.C k4 W (some ⟨g, 0, none⟩) l.length l) (hn : n < l.length) (hm : m = l.length - n) : ReadsRow (k4.K W) k4.sz W (some ⟨g, n * 4, none⟩) m (l.drop n) := by
 subst hm
 refine ⟨by rw [List.length_drop], by have := h.2.1; omega, fun _ => ⟨_, rfl, fun j p hp => ?_⟩⟩
 rw [List.getElem?_drop] at hp
 obtain ⟨ad, e, hc⟩ := h.2.2 (by omega)
 obtain rfl := Option.some.inj e
 obtain ⟨c, h1, h2, h3⟩ := hc _ p hp
 refine ⟨c, h1, h2, fun i u hu => ?_⟩
 have := h3 i u hu
 rw [addz] at this
 have e : Addr.add ⟨g, n * 4, none⟩ (j * 4 + i) = ⟨g, (n + j) * 4 + i, none⟩ := by
  rw [show (n + j) * 4 + i = n * 4 + (j * 4 + i) by omega]
  cases hq : j * 4 + i with
  | zero => rfl
  | succ q => simp [Addr.add]
 show W.cell? (Addr.add ⟨g, n * 4, none⟩ (j * 4 + i)) = _
 rw [e]
 exact this
set_option maxRecDepth 100000 in
set_option maxHeartbeats 40000000 in
theorem put_any (s0 s1 s2 s3 : Int) (l : List Sd) (hl0 : 0 < l.length) (hl : l.length ≤ 1000000) (g cp base : Nat) (w : World) (hbs : base ≤ w.heap.size) (hR : k4.R 22 w base (fun _ => True) (.slice (some ⟨g, 0, none⟩) l.length cp) l) : Calls Try.prog 62 #[.slice (some ⟨g, 0, none⟩) l.length cp, .agg #[.int .i64 s0, .int .i64 s1, .int .i64 s2, .int .i64 s3]] w fun e w' => ∃ v0 : Value, e = .returned v0 ∧ k4.R 22 w' base (fun _ => True) v0 (insL l (s0, s1, s2, s3)) ∧ Below w.heap.size w w' := by
 have HR0 := Aside0.mk hR
 have HBS := Aside0.mk hbs
 clear hR hbs
 go_enter Try.func62, Try.ntmps62
 go_wp2_with fail
 have HBb := Aside0.mk (show Below w.heap.size w (w.alloc (.cells #[.int .i64 s0, .int .i64 s1, .int .i64 s2, .int .i64 s3] 22 (0, 0))) from below_alloc (Below.refl _ _) _)
 have HSb := Aside0.mk (heap_alloc_new w (.cells #[.int .i64 s0, .int .i64 s1, .int .i64 s2, .int .i64 s3] 22 (0, 0)))
 have HSZ := Aside0.mk (show w.heap.size < (w.alloc (.cells #[.int .i64 s0, .int .i64 s1, .int .i64 s2, .int .i64 s3] 22 (0, 0))).heap.size by simp)
 generalize w.alloc (.cells #[.int .i64 s0, .int .i64 s1, .int .i64 s2, .int .i64 s3] 22 (0, 0)) = wb at HBb HSb HSZ ⊢
 have HRb := Aside0.mk (Kd.R_below HR0.out HBb.out)
 clear HR0
 go_loopw [5] (fun v5 wr => ∃ (n : Nat), v5 = .int .i64 n ∧ Aside0 (n ≤ l.length) ∧ Aside0 (∀ j x, j < n → l[j]? = some x → lt4 x (s0, s1, s2, s3) = true) ∧ Aside0 (Below wb.heap.size wb wr)) (fun v5 _ => l.length + 1 - (intOf v5).toNat)
 case atStart => exact ⟨0, rfl, ⟨Nat.zero_le _⟩, ⟨fun j x hj => absurd hj (Nat.not_lt_zero _)⟩, ⟨Below.refl _ _⟩⟩
 case round =>
  obtain ⟨n, rfl, HN, HLT, HB⟩ := hrel
  obtain ⟨wy, rfl⟩ : ∃ wy : World, wy = wr := ⟨_, rfl⟩
  have hn := HN.out
  have HRy := Aside0.mk (Kd.R_below HRb.out HB.out)
  have HSy := Aside0.mk (blk_below HSb.out HB.out)
  have r0 : wy.cell? ⟨w.heap.size, 0, none⟩ = some (.int .i64 s0) := (blk_cell HSy.out 0).trans rfl
  have r1 : wy.cell? ⟨w.heap.size, 1, none⟩ = some (.int .i64 s1) := (blk_cell HSy.out 1).trans rfl
  have r2 : wy.cell? ⟨w.heap.size, 2, none⟩ = some (.int .i64 s2) := (blk_cell HSy.out 2).trans rfl
  have r3 : wy.cell? ⟨w.heap.size, 3, none⟩ = some (.int .i64 s3) := (blk_cell HSy.out 3).trans rfl
  obtain ⟨b, hb⟩ : ∃ b, (decide (n < l.length) && lt4 (l.getD n (0, 0, 0, 0)) (s0, s1, s2, s3)) = b := ⟨_, rfl⟩
  have HBT := Aside0.mk hb
  clear hb
  have p0 : (0 : Int) ≤ (n : Int) := by omega
  have MK0 := Aside0.mk (show ∀ W' : World, Below wy.heap.size wy W' → W'.cell? ⟨w.heap.size, 0, none⟩ = some (.int .i64 s0) ∧ W'.cell? ⟨w.heap.size, 1, none⟩ = some (.int .i64 s1) ∧ W'.cell? ⟨w.heap.size, 2, none⟩ = some (.int .i64 s2) ∧ W'.cell? ⟨w.heap.size, 3, none⟩ = some (.int .i64 s3) from fun W' hb => ⟨keep_below hb r0, keep_below hb r1, keep_below hb r2, keep_below hb r3⟩)
  clear r0 r1 r2 r3
  go_wp2_with fail
  go_cut [17] (fun v17 wx => v17 = .bool b ∧ Aside0 (Below wy.heap.size wy wx))
  case first =>
   by_cases c : n < l.length
   ·have c0 : decide (n < l.length) = true := decide_eq_true c
    have c1 : decide ((n : Int) < (l.length : Int)) = true := decide_eq_true (by omega)
    obtain ⟨⟨x0, x1, x2, x3⟩, hx⟩ : ∃ x, l[n]? = some x := ⟨_, List.getElem?_eq_getElem c⟩
    obtain ⟨h0, h1, h2, h3⟩ := cellsOf4 HRy.out hx
    have p1 : (n : Int) < (l.length : Int) := by omega
    have HBE : ∀ W : World, Calls Try.prog 87 #[.agg #[.int .i64 x0, .int .i64 x1, .int .i64 x2, .int .i64 x3], .agg #[.int .i64 s0, .int .i64 s1, .int .i64 s2, .int .i64 s3]] W fun e w' => e = .returned (.bool b) ∧ Below W.heap.size W w' := fun W => by
     have h := HBT.out
     rw [c0, Bool.true_and, List.getD_eq_getElem?_getD, hx] at h
     exact h ▸ l2Before_any (fn4 (x0, x1, x2, x3)) (fn4 (s0, s1, s2, s3)) W
    have MK1 := Aside0.mk (show ∀ W' : World, Below wy.heap.size wy W' → (W'.cell? ⟨w.heap.size, 0, none⟩ = some (.int .i64 s0) ∧ W'.cell? ⟨w.heap.size, 1, none⟩ = some (.int .i64 s1) ∧ W'.cell? ⟨w.heap.size, 2, none⟩ = some (.int .i64 s2) ∧ W'.cell? ⟨w.heap.size, 3, none⟩ = some (.int .i64 s3)) ∧ W'.cell? ⟨g, n * 4, none⟩ = some (.int .i64 x0) ∧ W'.cell? ⟨g, n * 4 + 1, none⟩ = some (.int .i64 x1) ∧ W'.cell? ⟨g, n * 4 + 2, none⟩ = some (.int .i64 x2) ∧ W'.cell? ⟨g, n * 4 + 3, none⟩ = some (.int .i64 x3) from fun W' hb => ⟨MK0.out W' hb, keep_below hb h0, keep_below hb h1, keep_below hb h2, keep_below hb h3⟩)
    clear h0 h1 h2 h3 hx
    go_region_held3 (fun w' => (w'.cell? ⟨w.heap.size, 0, none⟩ = some (.int .i64 s0) ∧ w'.cell? ⟨w.heap.size, 1, none⟩ = some (.int .i64 s1) ∧ w'.cell? ⟨w.heap.size, 2, none⟩ = some (.int .i64 s2) ∧ w'.cell? ⟨w.heap.size, 3, none⟩ = some (.int .i64 s3)) ∧ w'.cell? ⟨g, n * 4, none⟩ = some (.int .i64 x0) ∧ w'.cell? ⟨g, n * 4 + 1, none⟩ = some (.int .i64 x1) ∧ w'.cell? ⟨g, n * 4 + 2, none⟩ = some (.int .i64 x2) ∧ w'.cell? ⟨g, n * 4 + 3, none⟩ = some (.int .i64 x3))
     (first | (refine MK1.out _ ?_; ((repeat first | (with_reducible assumption) | (with_reducible exact Below.refl _ _) | ((with_reducible refine bl_alloc _ ?_ ?_); focus (first | (simp; done) | (simp; omega) | omega | (with_reducible exact below_size (by with_reducible assumption)))) | ((with_reducible refine bl_set _ ?_ ?_); focus (first | (simp; done) | (simp; omega) | omega | (with_reducible exact below_size (by with_reducible assumption)))) | (with_reducible refine Below.drew ?_) | (with_reducible refine bl_drewN _ ?_)); done)))
     (first
      | (go_at_call 87; refine (HBE _).mono ?_; rintro e w5 ⟨rfl, hb5⟩; have q5 : Below wy.heap.size wy w5 := below_chain (by ((repeat first | (with_reducible assumption) | (with_reducible exact Below.refl _ _) | ((with_reducible refine bl_alloc _ ?_ ?_); focus (first | (simp; done) | (simp; omega) | omega | (with_reducible exact below_size (by with_reducible assumption)))) | ((with_reducible refine bl_set _ ?_ ?_); focus (first | (simp; done) | (simp; omega) | omega | (with_reducible exact below_size (by with_reducible assumption)))) | (with_reducible refine Below.drew ?_) | (with_reducible refine bl_drewN _ ?_)); done)) hb5))
    all_goals
     go_wp2_with fail
     go_meet
     exact ⟨rfl, ⟨by ((repeat first | (with_reducible assumption) | (with_reducible exact Below.refl _ _) | ((with_reducible refine bl_alloc _ ?_ ?_); focus (first | (simp; done) | (simp; omega) | omega | (with_reducible exact below_size (by with_reducible assumption)))) | ((with_reducible refine bl_set _ ?_ ?_); focus (first | (simp; done) | (simp; omega) | omega | (with_reducible exact below_size (by with_reducible assumption)))) | (with_reducible refine Below.drew ?_) | (with_reducible refine bl_drewN _ ?_)); done)⟩⟩
   ·have c0 : decide (n < l.length) = false := decide_eq_false c
    have c1 : decide ((n : Int) < (l.length : Int)) = false := decide_eq_false (by omega)
    obtain rfl : b = false := by
     have h := HBT.out
     rw [c0, Bool.false_and] at h
     exact h.symm
    go_quiet (fail)
    go_wp2_with fail
    go_meet
    exact ⟨rfl, ⟨pw_below_drewN (Below.refl _ _) nq⟩⟩
  case rest =>
   obtain ⟨rfl, HC⟩ := hcut
   have HB2 := Aside0.mk (below_chain HB.out HC.out)
   cases b with
   | true =>
    have hc : n < l.length ∧ lt4 (l.getD n (0, 0, 0, 0)) (s0, s1, s2, s3) = true := by
     have h := HBT.out
     rw [Bool.and_eq_true, decide_eq_true_eq] at h
     exact h
    have HLN := Aside0.mk (show ∀ j x, j < n + 1 → l[j]? = some x → lt4 x (s0, s1, s2, s3) = true from fun j x hj hx => by
     by_cases q : j = n
     ·subst q
      have h2 := hc.2
      rw [List.getD_eq_getElem?_getD, hx] at h2
      exact h2
     ·exact HLT.out j x (by omega) hx)
    have hc1 := hc.1
    clear hc
    go_wp2_with fail
    exact ⟨⟨n + 1, by go_num, ⟨by omega⟩, HLN, HB2⟩, by simp only [intOf]; omega⟩
   | false =>
    have HRc := Aside0.mk (Kd.R_below HRb.out HB2.out)
    have MK2 := Aside0.mk (show ∀ W' : World, Below wc.heap.size wc W' → W'.cell? ⟨w.heap.size, 0, none⟩ = some (.int .i64 s0) ∧ W'.cell? ⟨w.heap.size, 1, none⟩ = some (.int .i64 s1) ∧ W'.cell? ⟨w.heap.size, 2, none⟩ = some (.int .i64 s2) ∧ W'.cell? ⟨w.heap.size, 3, none⟩ = some (.int .i64 s3) from fun W' hb => MK0.out W' (below_chain HC.out hb))
    obtain ⟨r, hr⟩ : ∃ r, decide (l[n]? = some (s0, s1, s2, s3)) = r := ⟨_, rfl⟩
    have HR := Aside0.mk hr
    clear hr
    go_wp2_with fail
    go_cut [31] (fun v31 wx => v31 = .bool r ∧ Aside0 (Below wc.heap.size wc wx))
    case first =>
     obtain ⟨r0, r1, r2, r3⟩ := MK2.out wc (Below.refl _ _)
     by_cases c : n < l.length
     ·have c0 : decide (n < l.length) = true := decide_eq_true c
      have c1 : decide ((n : Int) < (l.length : Int)) = true := decide_eq_true (by omega)
      obtain ⟨⟨x0, x1, x2, x3⟩, hx⟩ : ∃ x, l[n]? = some x := ⟨_, List.getElem?_eq_getElem c⟩
      obtain ⟨h0, h1, h2, h3⟩ := cellsOf4 HRc.out hx
      have p1 : (n : Int) < (l.length : Int) := by omega
      have heq : ∀ W : World, (Op.equalIn 10000 22 (.agg #[.int .i64 x0, .int .i64 x1, .int .i64 x2, .int .i64 x3]) (.agg #[.int .i64 s0, .int .i64 s1, .int .i64 s2, .int .i64 s3])).run Try.prog W = .ok r W := fun W => by
       have e : r = (x0 == s0 && (x1 == s1 && (x2 == s2 && x3 == s3))) := by
        rw [← HR.out, hx, Bool.eq_iff_iff]
        simp
       exact e ▸ eq4_run x0 x1 x2 x3 s0 s1 s2 s3 W
      have hgd := guard4
      clear hx
      go_quiet (fail)
      go_wp2_with fail
      go_meet
      exact ⟨rfl, ⟨pw_below_drewN (Below.refl _ _) nq⟩⟩
     ·have c0 : decide (n < l.length) = false := decide_eq_false c
      have c1 : decide ((n : Int) < (l.length : Int)) = false := decide_eq_false (by omega)
      obtain rfl : r = false := by
       have h := HR.out
       rw [List.getElem?_eq_none (by omega)] at h
       exact h.symm.trans (by simp)
      go_quiet (fail)
      go_wp2_with fail
      go_meet
      exact ⟨rfl, ⟨pw_below_drewN (Below.refl _ _) nq⟩⟩
    case rest =>
     obtain ⟨rfl, HC2⟩ := hcut
     have HBq := Aside0.mk (below_chain HB2.out HC2.out)
     have HSq := Aside0.mk (blk_below HSb.out HBq.out)
     have HRq := Aside0.mk (Kd.R_below HRb.out HBq.out)
     cases r with
     | true =>
      have HE := Aside0.mk (show insL l (s0, s1, s2, s3) = l from by
       have h := of_decide_eq_true HR.out
       have hlt : n < l.length := by
        rcases Nat.lt_or_ge n l.length with q | q
        ·exact q
        ·rw [List.getElem?_eq_none q] at h; cases h
       exact insL_in hlt HLT.out h)
      go_wp2_with fail
      go_ret
      exact ⟨_, rfl, by rw [HE.out]; exact HRq.out, below_chain HBb.out HBq.out⟩
     | false =>
      have HI := Aside0.mk (show insL l (s0, s1, s2, s3) = l.take n ++ ((s0, s1, s2, s3) :: l.drop n) from by
       have h := of_decide_eq_false HR.out
       by_cases c : n < l.length
       ·obtain ⟨x, hx⟩ : ∃ x, l[n]? = some x := ⟨_, List.getElem?_eq_getElem c⟩
        refine insL_new c HLT.out hx (fun e => ?_) (fun e => h (by rw [hx, e]))
        have h2 := HBT.out
        rw [decide_eq_true c, Bool.true_and, List.getD_eq_getElem?_getD, hx] at h2
        rw [show lt4 x (s0, s1, s2, s3) = false from h2] at e
        cases e
       ·have e : n = l.length := by omega
        subst e
        exact insL_end HLT.out)
      generalize wc = wq at HBq HSq HRq ⊢
      obtain ⟨⟨r0, r1, r2, r3⟩, _⟩ : (wq.cell? ⟨w.heap.size, 0, none⟩ = some (.int .i64 s0) ∧ wq.cell? ⟨w.heap.size, 1, none⟩ = some (.int .i64 s1) ∧ wq.cell? ⟨w.heap.size, 2, none⟩ = some (.int .i64 s2) ∧ wq.cell? ⟨w.heap.size, 3, none⟩ = some (.int .i64 s3)) ∧ True := ⟨⟨(blk_cell HSq.out 0).trans rfl, (blk_cell HSq.out 1).trans rfl, (blk_cell HSq.out 2).trans rfl, (blk_cell HSq.out 3).trans rfl⟩, trivial⟩
      have HCP : l.length ≤ cp := by
       obtain ⟨A', c', e, hcc, _⟩ := Kd.R_reads HRq.out
       cases e
       exact hcc
      have p2 : (n : Int) ≤ (l.length : Int) := by omega
      have p4 : (n : Int) ≤ (cp : Int) := by omega
      have p6 : n ≤ cp := by omega
      obtain ⟨A', hA'⟩ : ∃ A', (if cp = n then (some ⟨g, 0, none⟩ : Option Addr) else some ⟨g, n * 4, none⟩) = A' := ⟨_, rfl⟩
      have HDR := Aside0.mk (show ∀ W : World, Kd.C k4 W (some ⟨g, 0, none⟩) l.length l → ReadsRow (k4.K W) k4.sz W A' (l.length - n) (l.drop n) from fun W h => by
       by_cases q : n < l.length
       ·rw [if_neg (by omega)] at hA'
        subst hA'
        exact drop_reads4 h q rfl
       ·exact ⟨by rw [List.length_drop], by omega, fun h0 => by omega⟩)
      have p3 : n ≤ l.length := by omega
      have MKS := Aside0.mk (show ∀ W' : World, Below wq.heap.size wq W' → W'.cell? ⟨w.heap.size, 0, none⟩ = some (.int .i64 s0) ∧ W'.cell? ⟨w.heap.size, 1, none⟩ = some (.int .i64 s1) ∧ W'.cell? ⟨w.heap.size, 2, none⟩ = some (.int .i64 s2) ∧ W'.cell? ⟨w.heap.size, 3, none⟩ = some (.int .i64 s3) from fun W' hb => ⟨keep_below hb r0, keep_below hb r1, keep_below hb r2, keep_below hb r3⟩)
      have HLL := Aside0.mk hl
      have l1 : w.heap.size < wq.heap.size := Nat.lt_of_lt_of_le HSZ.out HBq.out.size
      have e1 : (([] : List Sd) ++ l.take n).length = n := by rw [List.nil_append, List.length_take]; omega
      have e2 : ((([] : List Sd) ++ l.take n) ++ [(s0, s1, s2, s3)]).length = n + 1 := by rw [List.length_append, e1]; rfl
      go_wp2_with fail
      go_region_law (first
       | ((with_reducible refine gate_if (N := 37) rfl ?_); refine Kd.R_append_rows_step k4 (w0 := wq) wq.heap.size (by rfl) (.tmp 33) (.tmp 36) 43 22 (.agg #[(.int .i64 0), (.int .i64 0), (.int .i64 0), (.int .i64 0)]) 32 rfl Try.underlying43 info4p rfl (by decide) (by decide) (.slice (some ⟨_, 0, none⟩) 0 0) ([] : List Sd) (l.take n) _ _ _ (fun _ => True) (fun _ => False) rfl rfl (row_empty (by repeat (first | (with_reducible assumption) | (with_reducible refine blk_drew ?_) | (with_reducible refine blk_drewN ?_ _) | ((with_reducible refine new_at ?_); first | rfl | (simp; done) | (simp [World.drew]; done)) | (with_reducible refine blk_alloc ?_ _))) (by simp)) (take_reads4 (Kd.R_below HRq.out (show Below wq.heap.size wq _ by ((repeat first | (with_reducible assumption) | (with_reducible exact Below.refl _ _) | ((with_reducible refine bl_alloc _ ?_ ?_); focus (first | (simp; done) | (simp; omega) | omega | (with_reducible exact below_size (by with_reducible assumption)))) | ((with_reducible refine bl_set _ ?_ ?_); focus (first | (simp; done) | (simp; omega) | omega | (with_reducible exact below_size (by with_reducible assumption)))) | (with_reducible refine Below.drew ?_) | (with_reducible refine bl_drewN _ ?_)); done))) p3) k4_flat (fun _ h => h.elim) (fun _ _ => trivial) (show Below wq.heap.size wq _ by ((repeat first | (with_reducible assumption) | (with_reducible exact Below.refl _ _) | ((with_reducible refine bl_alloc _ ?_ ?_); focus (first | (simp; done) | (simp; omega) | omega | (with_reducible exact below_size (by with_reducible assumption)))) | ((with_reducible refine bl_set _ ?_ ?_); focus (first | (simp; done) | (simp; omega) | omega | (with_reducible exact below_size (by with_reducible assumption)))) | (with_reducible refine Below.drew ?_) | (with_reducible refine bl_drewN _ ?_)); done)) (below_size (show Below wq.heap.size wq _ by ((repeat first | (with_reducible assumption) | (with_reducible exact Below.refl _ _) | ((with_reducible refine bl_alloc _ ?_ ?_); focus (first | (simp; done) | (simp; omega) | omega | (with_reducible exact below_size (by with_reducible assumption)))) | ((with_reducible refine bl_set _ ?_ ?_); focus (first | (simp; done) | (simp; omega) | omega | (with_reducible exact below_size (by with_reducible assumption)))) | (with_reducible refine Below.drew ?_) | (with_reducible refine bl_drewN _ ?_)); done))) (by have := HLL.out; simp; omega) ?_; intro v1 w1 hR1 hB1 hg1 hat1; obtain ⟨A1, c1, rfl⟩ := Kd.R_slice hR1; rw [e1] at hR1 ⊢; obtain ⟨z0, z1, z2, z3⟩ := MKS.out w1 hB1; (try ((refine absorb (T := w1.heap[wq.heap.size + 1]? = some (.cells #[.int .i64 s0, .int .i64 s1, .int .i64 s2, .int .i64 s3] 22 (0, 0))) ?_ ?_); (focus ((refine blk_grown ?_ hg1 ?_); (focus ((repeat (first | (with_reducible assumption) | (with_reducible refine blk_drew ?_) | (with_reducible refine blk_drewN ?_ _) | ((with_reducible refine new_at ?_); first | rfl | (simp; done) | (simp [World.drew]; done)) | (with_reducible refine blk_alloc ?_ _))); done)); (focus (simp [Value.ownBlock]; done)))); intro hL1)); (try ((refine absorb (T := w1.heap[wq.heap.size]? = some (.cells #[.int .i64 s0, .int .i64 s1, .int .i64 s2, .int .i64 s3] 22 (0, 0))) ?_ ?_); (focus ((refine blk_grown ?_ hg1 ?_); (focus ((repeat (first | (with_reducible assumption) | (with_reducible refine blk_drew ?_) | (with_reducible refine blk_drewN ?_ _) | ((with_reducible refine new_at ?_); first | rfl | (simp; done) | (simp [World.drew]; done)) | (with_reducible refine blk_alloc ?_ _))); done)); (focus (simp [Value.ownBlock]; done)))); intro hL2)))
       | ((with_reducible refine gate_if (N := 40) rfl ?_); refine Kd.R_append_rows_step k4 (w0 := wq) wq.heap.size (by rfl) (.tmp 37) (.tmp 39) 43 22 (.agg #[(.int .i64 0), (.int .i64 0), (.int .i64 0), (.int .i64 0)]) 32 rfl Try.underlying43 info4p rfl (by decide) (by decide) (.slice A1 n c1) ([] ++ l.take n) [(s0, s1, s2, s3)] _ _ _ (fun _ => True) (fun _ => False) rfl rfl (Kd.R_below hR1 (show Below w1.heap.size w1 _ by ((repeat first | (with_reducible assumption) | (with_reducible exact Below.refl _ _) | ((with_reducible refine bl_alloc _ ?_ ?_); focus (first | (simp; done) | (simp; omega) | omega | (with_reducible exact below_size (by with_reducible assumption)))) | ((with_reducible refine bl_set _ ?_ ?_); focus (first | (simp; done) | (simp; omega) | omega | (with_reducible exact below_size (by with_reducible assumption)))) | (with_reducible refine Below.drew ?_) | (with_reducible refine bl_drewN _ ?_)); done))) (lit_reads4 (by repeat (first | (with_reducible assumption) | (with_reducible refine blk_drew ?_) | (with_reducible refine blk_drewN ?_ _) | ((with_reducible refine new_at ?_); first | rfl | (simp; done) | (simp [World.drew]; done)) | (with_reducible refine blk_alloc ?_ _)))) k4_flat (fun _ h => h.elim) (fun _ _ => trivial) (below_chain hB1 (show Below w1.heap.size w1 _ by ((repeat first | (with_reducible assumption) | (with_reducible exact Below.refl _ _) | ((with_reducible refine bl_alloc _ ?_ ?_); focus (first | (simp; done) | (simp; omega) | omega | (with_reducible exact below_size (by with_reducible assumption)))) | ((with_reducible refine bl_set _ ?_ ?_); focus (first | (simp; done) | (simp; omega) | omega | (with_reducible exact below_size (by with_reducible assumption)))) | (with_reducible refine Below.drew ?_) | (with_reducible refine bl_drewN _ ?_)); done))) (below_size (below_chain hB1 (show Below w1.heap.size w1 _ by ((repeat first | (with_reducible assumption) | (with_reducible exact Below.refl _ _) | ((with_reducible refine bl_alloc _ ?_ ?_); focus (first | (simp; done) | (simp; omega) | omega | (with_reducible exact below_size (by with_reducible assumption)))) | ((with_reducible refine bl_set _ ?_ ?_); focus (first | (simp; done) | (simp; omega) | omega | (with_reducible exact below_size (by with_reducible assumption)))) | (with_reducible refine Below.drew ?_) | (with_reducible refine bl_drewN _ ?_)); done)))) (by have := HLL.out; simp; omega) ?_; intro v2 w2 hR2 hB2 hg2 hat2; obtain ⟨A2, c2, rfl⟩ := Kd.R_slice hR2; rw [e2] at hR2 ⊢)
       | ((with_reducible refine gate_if (N := 44) rfl ?_); refine Kd.R_append_rows_step k4 (w0 := wq) wq.heap.size (by rfl) (.tmp 40) (.tmp 43) 43 22 (.agg #[(.int .i64 0), (.int .i64 0), (.int .i64 0), (.int .i64 0)]) 32 rfl Try.underlying43 info4p rfl (by decide) (by decide) (.slice A2 (n + 1) c2) (([] ++ l.take n) ++ [(s0, s1, s2, s3)]) (l.drop n) _ _ _ (fun _ => True) (fun _ => False) rfl rfl (Kd.R_below hR2 (show Below w2.heap.size w2 _ by ((repeat first | (with_reducible assumption) | (with_reducible exact Below.refl _ _) | ((with_reducible refine bl_alloc _ ?_ ?_); focus (first | (simp; done) | (simp; omega) | omega | (with_reducible exact below_size (by with_reducible assumption)))) | ((with_reducible refine bl_set _ ?_ ?_); focus (first | (simp; done) | (simp; omega) | omega | (with_reducible exact below_size (by with_reducible assumption)))) | (with_reducible refine Below.drew ?_) | (with_reducible refine bl_drewN _ ?_)); done))) (HDR.out _ (Kd.R_reads' (Kd.R_below HRq.out (below_chain hB2 (show Below w2.heap.size w2 _ by ((repeat first | (with_reducible assumption) | (with_reducible exact Below.refl _ _) | ((with_reducible refine bl_alloc _ ?_ ?_); focus (first | (simp; done) | (simp; omega) | omega | (with_reducible exact below_size (by with_reducible assumption)))) | ((with_reducible refine bl_set _ ?_ ?_); focus (first | (simp; done) | (simp; omega) | omega | (with_reducible exact below_size (by with_reducible assumption)))) | (with_reducible refine Below.drew ?_) | (with_reducible refine bl_drewN _ ?_)); done))))).2.2) k4_flat (fun _ h => h.elim) (fun _ _ => trivial) (below_chain hB2 (show Below w2.heap.size w2 _ by ((repeat first | (with_reducible assumption) | (with_reducible exact Below.refl _ _) | ((with_reducible refine bl_alloc _ ?_ ?_); focus (first | (simp; done) | (simp; omega) | omega | (with_reducible exact below_size (by with_reducible assumption)))) | ((with_reducible refine bl_set _ ?_ ?_); focus (first | (simp; done) | (simp; omega) | omega | (with_reducible exact below_size (by with_reducible assumption)))) | (with_reducible refine Below.drew ?_) | (with_reducible refine bl_drewN _ ?_)); done))) (below_size (below_chain hB2 (show Below w2.heap.size w2 _ by ((repeat first | (with_reducible assumption) | (with_reducible exact Below.refl _ _) | ((with_reducible refine bl_alloc _ ?_ ?_); focus (first | (simp; done) | (simp; omega) | omega | (with_reducible exact below_size (by with_reducible assumption)))) | ((with_reducible refine bl_set _ ?_ ?_); focus (first | (simp; done) | (simp; omega) | omega | (with_reducible exact below_size (by with_reducible assumption)))) | (with_reducible refine Below.drew ?_) | (with_reducible refine bl_drewN _ ?_)); done)))) (by have := HLL.out; simp; omega) ?_; intro v3 w3 hR3 hB3 hg3 hat3))
      all_goals
       have HFR := Aside0.mk (show k4.R 22 w3 base (fun _ => True) v3 (insL l (s0, s1, s2, s3)) from by
        rw [HI.out]
        have h := Kd.R_lower hR3 (Nat.le_trans HBS.out (Nat.le_trans HBb.out.size HBq.out.size))
        simpa using h)
       have HFB := Aside0.mk (below_chain HBb.out (below_chain HBq.out hB3))
       go_wp2_with fail
       go_ret
       exact ⟨_, rfl, HFR.out, HFB.out⟩
end Go.Proofs.Ytlhodfjdmafapaa
end
section
namespace Go.Proofs.Ytlhodfjdmafapaa
open Go.RowKit Go.Maps Go.Proofs.YtlhodfjdmafapaaW.PrintWords Go.Proofs.YtlhodfjdmafapaaW.PrintLast
set_option linter.unusedVariables false
set_option linter.unusedSimpArgs false
def kE : Kd Edge := Kd.pair k4 (Kd.int .i64)
theorem flatE : Flat kE := fun _ _ _ _ _ _ h => h
end Go.Proofs.Ytlhodfjdmafapaa
end
section
namespace Go.Proofs.Ytlhodfjdmafapaa.QIm
open Go.RowKit Go.Proofs.YtlhodfjdmafapaaW.PrintWords Go.Proofs.YtlhodfjdmafapaaW.PrintLast Go.Proofs.YtlhodfjdmafapaaW.PrintMore
attribute [local go_sem] max2_int min2_int max_two min_two max_three min_three max_four min_four   -- for this text's walks alone
set_option linter.unusedVariables false
set_option linter.unusedSimpArgs false
def errW : Option Int → Value
 | none => .nilIface
 | some c => .iface 0 (.int .i64 c)
theorem errW_none : errW none = .nilIface := rfl
theorem errW_some (c : Int) : errW (some c) = .iface 0 (.int .i64 c) := rfl
theorem info3 : (Try.prog.info? 3).map (fun i => (i.zero, i.size, i.bytes)) = some (some (.int .i64 0), 1, 8) := by kernel_rfl
-- the values' own types
/-! #### struct type 22 -/
structure S22 where
 f0 : Int
 f1 : Int
 f2 : Int
 f3 : Int
def z22 : S22 := ⟨(0 : Int), (0 : Int), (0 : Int), (0 : Int)⟩
def k22 : Kd S22 := Kd.iso (Kd.pair (Kd.int .i64) (Kd.pair (Kd.int .i64) (Kd.pair (Kd.int .i64) (Kd.int .i64)))) (fun x : S22 => (x.f0, x.f1, x.f2, x.f3))
theorem k22_open {w : World} {x : S22} {cs : List Value} (h : k22.K w x cs) : cs = [.int .i64 x.f0, .int .i64 x.f1, .int .i64 x.f2, .int .i64 x.f3] := by
 obtain ⟨_, _, rfl, rfl, ⟨_, _, rfl, rfl, ⟨_, _, rfl, rfl, rfl⟩⟩⟩ := h
 exact rfl
def rd_T22 (xs : List S22) (i : Int) : S22 := xs.getD i.toNat z22
theorem at_T22 {w : World} {A : Option Addr} {n : Nat} {xs : List S22} (h : Kd.C k22 w A n xs) (i : Int) (h0 : 0 ≤ i) (h1 : i < n) : ∃ ad , A = some ad ∧ w.cell? (ad.add (i.toNat * 4)) = some (.int .i64 (rd_T22 xs i).f0) ∧ w.cell? ⟨(ad.add (i.toNat * 4)).block, (ad.add (i.toNat * 4)).off + 1, none⟩ = some (.int .i64 (rd_T22 xs i).f1) ∧ w.cell? ⟨(ad.add (i.toNat * 4)).block, (ad.add (i.toNat * 4)).off + 2, none⟩ = some (.int .i64 (rd_T22 xs i).f2) ∧ w.cell? ⟨(ad.add (i.toNat * 4)).block, (ad.add (i.toNat * 4)).off + 3, none⟩ = some (.int .i64 (rd_T22 xs i).f3) := by
 obtain ⟨ad, c, e, _, hK, hc0⟩ := Kd.C_get h z22 i h0 h1
 have hc : ∀ j u, c[j]? = some u → w.cell? (ad.add (i.toNat * 4 + j)) = some u := hc0
 obtain rfl := k22_open hK
 exact ⟨ad, e, hc 0 _ rfl, by rw [← add_field _ _ 1 (by omega)]; exact hc 1 _ rfl, by rw [← add_field _ _ 2 (by omega)]; exact hc 2 _ rfl, by rw [← add_field _ _ 3 (by omega)]; exact hc 3 _ rfl⟩
/-! #### struct type 27 -/
end Go.Proofs.Ytlhodfjdmafapaa.QIm
end
section
namespace Go.Proofs.Ytlhodfjdmafapaa.QIm
open Go.RowKit Go.Proofs.YtlhodfjdmafapaaW.PrintWords Go.Proofs.YtlhodfjdmafapaaW.PrintLast Go.Proofs.YtlhodfjdmafapaaW.PrintMore
attribute [local go_sem] max2_int min2_int max_two min_two max_three min_three max_four min_four   -- for this text's walks alone
set_option linter.unusedVariables false
set_option linter.unusedSimpArgs false
/-! ### impl_Kit_sets: function 65 -/
def impl_Kit_sets.l0 : Nat → List Int → Int → Int → Int → Int → Int → Option (List Int)
 | 0, _, _, _, _, _, _ => none
 | k + 1, x3, x6, x102000, x102001, x102002, x102003 => if x6 < 16 then ((xIsSet.f x102000 x102001 x102002 x102003 x6).bind fun t105 => (if t105 = true then (if x3.length < 17592186044416 then (impl_Kit_sets.l0 k (x3 ++ [x6]) (wrap64 (x6 + 1)) x102000 x102001 x102002 x102003) else (none)) else (impl_Kit_sets.l0 k x3 (wrap64 (x6 + 1)) x102000 x102001 x102002 x102003))) else (some x3)
def impl_Kit_sets.f (k : Nat) (a0_0 : Int) (a0_1 : Int) (a0_2 : Int) (a0_3 : Int) : Option (List Int) := impl_Kit_sets.l0 k (([] : List Int)) 0 a0_0 a0_1 a0_2 a0_3
theorem impl_Kit_sets.mono_l : ∀ k, (∀ y0 y1 y2 y3 y4 y5, LeO (impl_Kit_sets.l0 k y0 y1 y2 y3 y4 y5) (impl_Kit_sets.l0 (k + 1) y0 y1 y2 y3 y4 y5))
 | 0 => fun _ _ _ _ _ _ r h => by simp [impl_Kit_sets.l0] at h
 | k + 1 => by
  have ih0 := impl_Kit_sets.mono_l k
  ·intro y0 y1 y2 y3 y4 y5
   unfold impl_Kit_sets.l0
   repeat' first
   | (with_reducible exact ih0 _ _ _ _ _ _)
   | (with_reducible exact LeO.refl _)
   | (with_reducible exact LeO.none _)
   | (with_reducible refine LeO.ite ?_ ?_)
   | (with_reducible refine LeO.bind ?_ (fun _ => ?_))
   | exact ih0 _ _ _ _ _ _
   | exact LeO.none _
   | refine LeO.ite ?_ ?_
   | refine LeO.bind ?_ (fun _ => ?_)
theorem impl_Kit_sets.mono : ∀ a0 a1 a2 a3 k, LeO (impl_Kit_sets.f k a0 a1 a2 a3) (impl_Kit_sets.f (k + 1) a0 a1 a2 a3) := by
 intro a0 a1 a2 a3 k
 have ih0 := impl_Kit_sets.mono_l k
 unfold impl_Kit_sets.f
 repeat' first
   | (with_reducible exact ih0 _ _ _ _ _ _)
   | (with_reducible exact LeO.refl _)
   | (with_reducible exact LeO.none _)
   | (with_reducible refine LeO.ite ?_ ?_)
   | (with_reducible refine LeO.bind ?_ (fun _ => ?_))
   | exact ih0 _ _ _ _ _ _
   | exact LeO.none _
   | refine LeO.ite ?_ ?_
   | refine LeO.bind ?_ (fun _ => ?_)
set_option maxHeartbeats 8000000 in
set_option maxRecDepth 100000 in
theorem impl_Kit_sets.calls (k : Nat) (a0_0 : Int) (a0_1 : Int) (a0_2 : Int) (a0_3 : Int) (r : List Int) (w : World) (h : impl_Kit_sets.f k a0_0 a0_1 a0_2 a0_3 = some r) :
  Calls Try.prog 65 #[.agg #[.int .i64 a0_0, .int .i64 a0_1, .int .i64 a0_2, .int .i64 a0_3]] w fun e w' => ∃ v0_ : Value, e = .returned (v0_) ∧ Kd.R (Kd.int .i64) 3 w' w.heap.size (fun _ => True) v0_ r ∧ Below w.heap.size w w' := by
 have hu27 := Try.underlying27
 have HB := Aside0.mk (Below.refl w.heap.size w)
 have H : (impl_Kit_sets.l0 k (([] : List Int)) 0 a0_0 a0_1 a0_2 a0_3) = some r := h
 clear h
 obtain ⟨y102, hy102⟩ : ∃ y_ : List Int, y_ = (([] : List Int)) := ⟨_, rfl⟩
 replace H : (impl_Kit_sets.l0 k y102 0 a0_0 a0_1 a0_2 a0_3) = some r := by first | (rw [hy102]; with_reducible exact H) | (have H2_ := (Option.bind_some _ _).symm.trans H; rw [hy102]; with_reducible exact H2_) | (have H2_ := (Option.bind_some _ _).symm.trans H; with_reducible exact H2_) | with_reducible exact H | (rw [hy102]; exact H) | exact H
 have Ny102 := Aside0.mk hy102
 clear hy102
 have H' := Aside0.mk H
 clear H
 go_enter Try.func65, Try.ntmps65
 go_wp2_with (first | ((with_reducible refine gate_dst (N := 1) rfl ?_); refine box_event ?hg (N := 1) ?hd (cs := #[.int .i64 a0_0, .int .i64 a0_1, .int .i64 a0_2, .int .i64 a0_3]) (t := 27) ?hr ?_; (case hd => rfl); (case hg => rfl); (case hr => first | (go_simp; done) | (go_simp; rfl)); intro gb101 hg w2 hbox hb; have n0_ := Aside0.mk (below_step (by repeat (first | (with_reducible first | exact HB.out | apply below_alloc | apply pw_below_drewN | apply below_drew1) | exact HB.out)) hb); have n1_ := Aside0.mk (hbox); have n2_ := Aside0.mk ((by rw [hg]; exact (below_size (by repeat (first | (with_reducible first | exact HB.out | apply below_alloc | apply pw_below_drewN | apply below_drew1) | exact HB.out))) : w.heap.size ≤ gb101)); have n3_ := Aside0.mk ((by rw [hg]; exact (below_size (by repeat (first | (with_reducible first | exact HB.out | apply below_alloc | apply pw_below_drewN | apply below_drew1) | exact HB.out))) : w.heap.size ≤ gb101)); clear HB; have HB := n0_; have BK101 := n1_; have GW101 := n2_; have GE101 := n3_; clear n0_ n1_ n2_ n3_; clear hb hbox hg) | ((with_reducible refine gate_dst (N := 5) rfl ?_); refine Kd.R_lit (Kd.int .i64) _ 3 ?hg (N := 5) ?hd (xs := ([] : List Int)) (inner := []) (ok := fun _ => True) (okp := fun _ => True) ?hr ?hp (fun _ hk => hk) trivial (Below.refl _ _) (Nat.le_refl _) (by simp) ?_; (case hd => rfl); (case hg => rfl); (case hr => first | (go_simp; done) | (go_simp; rfl)); (case hp => exact (Reps.none _ _)); intro v103 w3 ho4 hb hg_ hnew_; clear hg_ hnew_; (first | rw [← Ny102.out] at ho4 | (simp only [Int.reduceToNat] at ho4; rw [← Ny102.out] at ho4)); have n0_ := Aside0.mk (Kd.R_lower ho4 (below_size (by repeat (first | (with_reducible first | exact HB.out | apply below_alloc | apply pw_below_drewN | apply below_drew1 | refine below_set ?_ GE101.out) | exact HB.out)))); have n1_ := Aside0.mk (blk_below (g := gb101) (o := .cells #[.int .i64 a0_0, .int .i64 a0_1, .int .i64 a0_2, .int .i64 a0_3] 27 (0, 0)) (by (with_reducible repeat (first | refine blk_drewN ?_ _ | refine blk_drew ?_ | refine blk_alloc ?_ _)); exact BK101.out) hb); have n2_ := Aside0.mk (below_step (by repeat (first | (with_reducible first | exact HB.out | apply below_alloc | apply pw_below_drewN | apply below_drew1 | refine below_set ?_ GE101.out) | exact HB.out)) hb); clear BK101; clear HB; have HO104 := n0_; have BK101 := n1_; have HB := n2_; clear n0_ n1_ n2_; clear hb ho4))
 go_loopg [3, 6] k (fun kq v3 v6 w' => ∃ (x3_1 : List Int) (x6_1 : Int), v6 = .int .i64 x6_1 ∧ Aside0 (impl_Kit_sets.l0 kq x3_1 x6_1 a0_0 a0_1 a0_2 a0_3 = some r) ∧ Aside0 (kq ≤ k) ∧ Aside0 (Kd.R (Kd.int .i64) 3 w' w.heap.size (fun _ => True) v3 x3_1) ∧ Aside0 (w'.heap[gb101]? = some (.cells #[.int .i64 a0_0, .int .i64 a0_1, .int .i64 a0_2, .int .i64 a0_3] 27 (0, 0))) ∧ Aside0 (Below w.heap.size w w'))
 case atStart => exact ⟨(y102), (0), (by first | rfl | (simp; done) | (simp [*]; done)), H', ⟨Nat.le_refl _⟩, ⟨by (with_reducible repeat (first | apply Kd.R_alloc | apply Kd.R_drewN | apply Kd.R_drew)); exact HO104.out⟩, ⟨by (with_reducible repeat (first | refine blk_drewN ?_ _ | refine blk_drew ?_ | refine blk_alloc ?_ _)); exact BK101.out⟩, ⟨by repeat (first | (with_reducible first | exact HB.out | apply below_alloc | apply pw_below_drewN | apply below_drew1 | refine below_set ?_ GE101.out) | exact HB.out)⟩⟩
 case round =>
  clear H'
  try clear p2
  obtain ⟨x3_1, x6_1, rfl, HA, HK1, HO_3, BK101, HB⟩ := hrel
  cases gk with
  | zero => exact absurd HA.out (by simp [impl_Kit_sets.l0])
  | succ k1 =>
   have H := HA.out
   clear HA
   simp only [impl_Kit_sets.l0] at H
   by_cases c5 : x6_1 < 16
   ·rw [if_pos c5] at H
    have c5b0 : decide (x6_1 < 16) = true := decide_eq_true c5
    clear c5
    replace H := Option.bind_eq_some_iff.mp H
    obtain ⟨t105, A60, H⟩ := H
    replace H : (if t105 = true then (if x3_1.length < 17592186044416 then (impl_Kit_sets.l0 k1 (x3_1 ++ [x6_1]) (wrap64 (x6_1 + 1)) a0_0 a0_1 a0_2 a0_3) else (none)) else (impl_Kit_sets.l0 k1 x3_1 (wrap64 (x6_1 + 1)) a0_0 a0_1 a0_2 a0_3)) = some r := H
    have A6 := Aside0.mk A60
    clear A60
    by_cases c7 : t105 = true
    ·subst c7
     have H1 : (if x3_1.length < 17592186044416 then (impl_Kit_sets.l0 k1 (x3_1 ++ [x6_1]) (wrap64 (x6_1 + 1)) a0_0 a0_1 a0_2 a0_3) else (none)) = some r := by rw [if_pos rfl] at H; exact H
     clear H
     have H := H1
     clear H1
     by_cases c8 : x3_1.length < 17592186044416
     ·rw [if_pos c8] at H
      have LMc8 := Aside0.mk c8
      clear c8
      obtain ⟨y106, hy106⟩ : ∃ y_ : List Int, y_ = (x3_1 ++ [x6_1]) := ⟨_, rfl⟩
      replace H : (impl_Kit_sets.l0 k1 y106 (wrap64 (x6_1 + 1)) a0_0 a0_1 a0_2 a0_3) = some r := by first | (rw [hy106]; with_reducible exact H) | (have H2_ := (Option.bind_some _ _).symm.trans H; rw [hy106]; with_reducible exact H2_) | (have H2_ := (Option.bind_some _ _).symm.trans H; with_reducible exact H2_) | with_reducible exact H | (rw [hy106]; exact H) | exact H
      have Ny106 := Aside0.mk hy106
      clear hy106
      have H' := Aside0.mk H
      clear H
      have hcz9_0 : wr.cell? ⟨gb101, 0, none⟩ = some (.int .i64 a0_0) := (blk_cell BK101.out 0).trans rfl
      have hcz9_1 : wr.cell? ⟨gb101, 1, none⟩ = some (.int .i64 a0_1) := (blk_cell BK101.out 1).trans rfl
      have hcz9_2 : wr.cell? ⟨gb101, 2, none⟩ = some (.int .i64 a0_2) := (blk_cell BK101.out 2).trans rfl
      have hcz9_3 : wr.cell? ⟨gb101, 3, none⟩ = some (.int .i64 a0_3) := (blk_cell BK101.out 3).trans rfl
      have hfz9_0 := blk_frozen BK101.out 0
      have hfz9_1 := blk_frozen BK101.out 1
      have hfz9_2 := blk_frozen BK101.out 2
      have hfz9_3 := blk_frozen BK101.out 3
      go_wp2_with (first | ((with_reducible refine gate_callee (f := 90) rfl ?_); refine goesL_ (some 11) rfl rfl Try.func90 (by kernel_rfl) rfl #[.agg #[.int .i64 a0_0, .int .i64 a0_1, .int .i64 a0_2, .int .i64 a0_3], .int .i64 x6_1] rfl (by (try simp only [List.map_toArray, List.map_cons, List.map_nil]); first | done | rfl | (simp only [List.length_drop, List.length_take]; rfl)) ?_; (with_reducible refine (xIsSet.calls a0_0 a0_1 a0_2 a0_3 x6_1 true _ A6.out).mono ?_); rintro e w10 ⟨rfl, hb⟩; refine ⟨_, rfl, ?_⟩; have n0_ := Aside0.mk (Kd.R_below (by (with_reducible repeat (first | apply Kd.R_alloc | apply Kd.R_drewN | apply Kd.R_drew)); exact HO_3.out) hb); have n1_ := Aside0.mk (blk_below (g := gb101) (o := .cells #[.int .i64 a0_0, .int .i64 a0_1, .int .i64 a0_2, .int .i64 a0_3] 27 (0, 0)) (by (with_reducible repeat (first | refine blk_drewN ?_ _ | refine blk_drew ?_ | refine blk_alloc ?_ _)); exact BK101.out) hb); have n2_ := Aside0.mk (below_step (by repeat (first | (with_reducible first | exact HB.out | apply below_alloc | apply pw_below_drewN | apply below_drew1 | refine below_set ?_ GE101.out) | exact HB.out)) hb); clear HO_3; clear BK101; clear HB; have HO_3 := n0_; have BK101 := n1_; have HB := n2_; clear n0_ n1_ n2_; (try clear hb); (try clear hb2); (try clear hk); (try clear hi)) | ((with_reducible refine gate_builtin (b := .append) (xs := #[.tmp 12, .tmp 14]) rfl ?_); at_builtin; refine Kd.R_append (Kd.int .i64) (w0 := w) w.heap.size rfl (.tmp 12) (.tmp 14) 38 3 (.int .i64 0) 8 rfl Try.underlying38 info3 rfl (by decide) (by omega) u3 x3_1 x6_1 [.int .i64 x6_1] (fun _ => True) (fun _ => False) rfl rfl ?aP (fun _ hk => hk.elim) ?aF ?aO ?aB ?aS ?aL ?_; (case aP => exact rfl); (case aB => exact (by repeat (first | (with_reducible first | exact HB.out | apply below_alloc | apply pw_below_drewN | apply below_drew1 | refine below_set ?_ GE101.out) | exact HB.out))); (case aF => exact (fun _ _ => trivial)); (case aO => exact (by (with_reducible repeat (first | apply Kd.R_alloc | apply Kd.R_drewN | apply Kd.R_drew)); exact HO_3.out)); (case aS => exact (below_size (by repeat (first | (with_reducible first | exact HB.out | apply below_alloc | apply pw_below_drewN | apply below_drew1 | refine below_set ?_ GE101.out) | exact HB.out)))); (case aL => have := LMc8.out; omega); intro v107 w11 ho hb hg hat; rw [← Ny106.out] at ho; have n0_ := Aside0.mk (blk_grown (g := gb101) (o := .cells #[.int .i64 a0_0, .int .i64 a0_1, .int .i64 a0_2, .int .i64 a0_3] 27 (0, 0)) (by (with_reducible repeat (first | refine blk_drewN ?_ _ | refine blk_drew ?_ | refine blk_alloc ?_ _)); exact BK101.out) hg (Kd.R_ne HO_3.out BK101.out (by decide))); have n1_ := Aside0.mk (hb); have n2_ := Aside0.mk (ho); clear BK101; clear HB; clear HO_3; have BK101 := n0_; have HB := n1_; have HO108 := n2_; clear n0_ n1_ n2_; clear ho hb hg hat))
      go_roundg k1
      case measure => have := HK1.out; omega
      case rel => exact ⟨(y106), (wrap64 (x6_1 + 1)), (by first | rfl | (simp; done) | (simp [*]; done)), H', ⟨by have := HK1.out; omega⟩, ⟨by (with_reducible repeat (first | apply Kd.R_alloc | apply Kd.R_drewN | apply Kd.R_drew)); exact HO108.out⟩, ⟨by (with_reducible repeat (first | refine blk_drewN ?_ _ | refine blk_drew ?_ | refine blk_alloc ?_ _)); exact BK101.out⟩, ⟨by repeat (first | (with_reducible first | exact HB.out | apply below_alloc | apply pw_below_drewN | apply below_drew1 | refine below_set ?_ GE101.out) | exact HB.out)⟩⟩
     ·rw [if_neg c8] at H
      exact absurd H (by simp)
    ·replace c7 := Bool.eq_false_iff.mpr c7
     subst c7
     have H1 : (impl_Kit_sets.l0 k1 x3_1 (wrap64 (x6_1 + 1)) a0_0 a0_1 a0_2 a0_3) = some r := by rw [if_neg (show ¬ (false = true) by decide)] at H; exact H
     clear H
     have H := H1
     clear H1
     have H' := Aside0.mk H
     clear H
     have hcz12_0 : wr.cell? ⟨gb101, 0, none⟩ = some (.int .i64 a0_0) := (blk_cell BK101.out 0).trans rfl
     have hcz12_1 : wr.cell? ⟨gb101, 1, none⟩ = some (.int .i64 a0_1) := (blk_cell BK101.out 1).trans rfl
     have hcz12_2 : wr.cell? ⟨gb101, 2, none⟩ = some (.int .i64 a0_2) := (blk_cell BK101.out 2).trans rfl
     have hcz12_3 : wr.cell? ⟨gb101, 3, none⟩ = some (.int .i64 a0_3) := (blk_cell BK101.out 3).trans rfl
     have hfz12_0 := blk_frozen BK101.out 0
     have hfz12_1 := blk_frozen BK101.out 1
     have hfz12_2 := blk_frozen BK101.out 2
     have hfz12_3 := blk_frozen BK101.out 3
     go_wp2_with (first | ((with_reducible refine gate_callee (f := 90) rfl ?_); refine goesL_ (some 11) rfl rfl Try.func90 (by kernel_rfl) rfl #[.agg #[.int .i64 a0_0, .int .i64 a0_1, .int .i64 a0_2, .int .i64 a0_3], .int .i64 x6_1] rfl (by (try simp only [List.map_toArray, List.map_cons, List.map_nil]); first | done | rfl | (simp only [List.length_drop, List.length_take]; rfl)) ?_; (with_reducible refine (xIsSet.calls a0_0 a0_1 a0_2 a0_3 x6_1 false _ A6.out).mono ?_); rintro e w13 ⟨rfl, hb⟩; refine ⟨_, rfl, ?_⟩; have n0_ := Aside0.mk (Kd.R_below (by (with_reducible repeat (first | apply Kd.R_alloc | apply Kd.R_drewN | apply Kd.R_drew)); exact HO_3.out) hb); have n1_ := Aside0.mk (blk_below (g := gb101) (o := .cells #[.int .i64 a0_0, .int .i64 a0_1, .int .i64 a0_2, .int .i64 a0_3] 27 (0, 0)) (by (with_reducible repeat (first | refine blk_drewN ?_ _ | refine blk_drew ?_ | refine blk_alloc ?_ _)); exact BK101.out) hb); have n2_ := Aside0.mk (below_step (by repeat (first | (with_reducible first | exact HB.out | apply below_alloc | apply pw_below_drewN | apply below_drew1 | refine below_set ?_ GE101.out) | exact HB.out)) hb); clear HO_3; clear BK101; clear HB; have HO_3 := n0_; have BK101 := n1_; have HB := n2_; clear n0_ n1_ n2_; (try clear hb); (try clear hb2); (try clear hk); (try clear hi)))
     go_roundg k1
     case measure => have := HK1.out; omega
     case rel => exact ⟨(x3_1), (wrap64 (x6_1 + 1)), (by first | rfl | (simp; done) | (simp [*]; done)), H', ⟨by have := HK1.out; omega⟩, ⟨by (with_reducible repeat (first | apply Kd.R_alloc | apply Kd.R_drewN | apply Kd.R_drew)); exact HO_3.out⟩, ⟨by (with_reducible repeat (first | refine blk_drewN ?_ _ | refine blk_drew ?_ | refine blk_alloc ?_ _)); exact BK101.out⟩, ⟨by repeat (first | (with_reducible first | exact HB.out | apply below_alloc | apply pw_below_drewN | apply below_drew1 | refine below_set ?_ GE101.out) | exact HB.out)⟩⟩
   ·rw [if_neg c5] at H
    have c5b0 : decide (x6_1 < 16) = false := decide_eq_false c5
    clear c5
    obtain rfl := Option.some.inj H
    go_wp2
    go_ret
    exact ⟨_, by first | rfl | (simp [errW_none, errW_some] <;> rfl) | (simp [*, errW_none, errW_some] <;> rfl), by (with_reducible repeat (first | apply Kd.R_alloc | apply Kd.R_drewN | apply Kd.R_drew)); exact HO_3.out, by repeat (first | (with_reducible first | exact HB.out | apply below_alloc | apply pw_below_drewN | apply below_drew1 | refine below_set ?_ GE101.out) | exact HB.out)⟩
end Go.Proofs.Ytlhodfjdmafapaa.QIm
end
section
namespace Go.Proofs.Ytlhodfjdmafapaa
open Go.RowKit Go.Proofs.YtlhodfjdmafapaaW.PrintWords Go.Proofs.YtlhodfjdmafapaaW.PrintLast Go.Proofs.Ytlhodfjdmafapaa.QIm
set_option linter.unusedVariables false
set_option linter.unusedSimpArgs false
theorem sets_l0 (k : Nat → Int) : ∀ (d i : Nat) (acc : List Int), i + d = 16 → acc.length ≤ i → impl_Kit_sets.l0 (d + 1) acc (i : Int) (k 0) (k 1) (k 2) (k 3) = some (acc ++ ((List.range' i d).map fun (j : Nat) => (j : Int)).filter (isSetB k))
 | 0, i, acc, h, ha => by
  simp only [impl_Kit_sets.l0]
  rw [if_neg (by omega)]
  simp
 | d + 1, i, acc, h, ha => by
  have hs : xIsSet.f (k 0) (k 1) (k 2) (k 3) (i : Int) = some (isSetB k (i : Int)) := rfl
  have hw : wrap64 ((i : Int) + 1) = ((i + 1 : Nat) : Int) := by unfold wrap64; omega
  rw [impl_Kit_sets.l0, if_pos (by omega), hs, Option.bind_some]
  cases hb : isSetB k (i : Int)
  ·rw [if_neg (by simp), hw, sets_l0 k d (i + 1) acc (by omega) (by omega)]
   simp [List.range'_succ, hb]
  ·rw [if_pos rfl, if_pos (by omega), hw, sets_l0 k d (i + 1) (acc ++ [(i : Int)]) (by omega) (by simp; omega)]
   simp [List.range'_succ, hb]
theorem sets_f (k : Nat → Int) : impl_Kit_sets.f 17 (k 0) (k 1) (k 2) (k 3) = some (setsL k) := by
 have := sets_l0 k 16 0 [] (by omega) (by simp)
 unfold impl_Kit_sets.f
 rw [show (0 : Int) = ((0 : Nat) : Int) from rfl, this]
 simp only [setsL, List.range_eq_range', List.nil_append]
theorem sets_any (k : Nat → Int) (w : World) : Calls Try.prog 65 #[A4 k] w fun e w' => ∃ v0 : Value, e = .returned v0 ∧ Kd.R (Kd.int .i64) 3 w' w.heap.size (fun _ => True) v0 (setsL k) ∧ Below w.heap.size w w' :=
 impl_Kit_sets.calls 17 (k 0) (k 1) (k 2) (k 3) (setsL k) w (sets_f k)
theorem sand_good {k : Nat → Int} {s : Sd} (h : Sand k (fn4 s)) : good4 s :=
 ⟨⟨h.lo 0 (by omega), Int.le_trans (h.hi 0 (by omega)) (h.top 0 (by omega))⟩, ⟨h.lo 1 (by omega), Int.le_trans (h.hi 1 (by omega)) (h.top 1 (by omega))⟩, ⟨h.lo 2 (by omega), Int.le_trans (h.hi 2 (by omega)) (h.top 2 (by omega))⟩, ⟨h.lo 3 (by omega), Int.le_trans (h.hi 3 (by omega)) (h.top 3 (by omega))⟩⟩
theorem MapKd.own_tight {P : Program} {k : TypeId} {α β : Type} {M : MapKd P k α β} {w : World} {b n : Nat} {L : List (α × β)} (h : M.own w b n L) : M.own w b L.length L := by
 obtain ⟨D, ⟨es, clock, hb, F, hs, hD⟩, h2⟩ := h
 have h1 : w.ownsMap P k rdV b es.size D := ⟨es, clock, hb, F, Nat.le_refl _, hD⟩
 have e : Maps.size D = es.size := by
  rw [hD]
  simp [Maps.size, length_sorted]
 rw [h2.size] at e
 exact ⟨D, e ▸ h1, h2⟩
theorem R_at {α : Type} {d : Kd α} {e base : Nat} {ok : Nat → Prop} {w : World} {v : Value} {xs : List α} (h : Kd.R d e w base ok v xs) : ∃ n, n = base ∧ Kd.R d e w n ok v xs := ⟨_, rfl, h⟩
end Go.Proofs.Ytlhodfjdmafapaa
end
section
namespace Go.Proofs.Ytlhodfjdmafapaa
open Go.RowKit Go.Maps Go.Proofs.YtlhodfjdmafapaaW.PrintWords Go.Proofs.YtlhodfjdmafapaaW.PrintLast
set_option linter.unusedVariables false
set_option linter.unusedSimpArgs false
def ME : MapKd Try.prog 22 Sd Value := mk4 (fun v => v) (fun _ _ e => e)
noncomputable def qE (k : Nat → Int) (L : List (Sd × Value)) (y : Sd) : List Edge := if (getA L y).isSome = true then edgesL k y else []
/-- the meter at block bm, its rows by the map be -/
structure Mtr (k : Nat → Int) (bm be base : Nat) (w : World) (L : List (Sd × Value)) : Prop where
 blk : w.heap[bm]? = some (.cells #[.int .i64 (k 0), .int .i64 (k 1), .int .i64 (k 2), .int .i64 (k 3), .map (some be)] 104 (0, 0))
 map : QL ME kE 109 w be base (fun _ => True) L.length (qE k L) L
 sand : ∀ p ∈ L, Sand k (fn4 p.1)
theorem Mtr.step {k : Nat → Int} {bm be base : Nat} {w w' : World} {L : List (Sd × Value)} (h : Mtr k bm be base w L) (hb : Below w.heap.size w w') : Mtr k bm be base w' L := ⟨blk_below h.blk hb, h.map.below hb, h.sand⟩
theorem grown_below {w w' : World} (h : Below w.heap.size w w') (row : Option Nat) : w.grownBy w' row := ⟨h.os, h.tape, h.output, h.size, fun k hk _ => h.block k hk⟩
theorem box_new {W : World} {o : Obj} {n : Nat} (h : W.heap.size = n) : (W.alloc o).heap[n]? = some o := h ▸ heap_alloc_new W o
theorem qE_some {k : Nat → Int} {L : List (Sd × Value)} {y : Sd} (h : (getA L y).isSome = true) : qE k L y = edgesL k y := by unfold qE; rw [if_pos h]
theorem R_map {β : Type} {d : Kd β} (hd : Flat d) {e base : Nat} {ok : Nat → Prop} {w w' : World} {v : Value} {xs : List β} (h : d.R e w base ok v xs) {b : Nat} (hm : ∃ es c, w.heap[b]? = some (.map es c)) (hg : w.grownBy w' (some b)) : d.R e w' base ok v xs :=
 R_only hd h (fun j hj => hg.block j (Kd.R_lt h j hj) (fun e1 => by
  obtain ⟨cells, hc⟩ := Kd.R_typed h j hj
  obtain ⟨es, c, hm⟩ := hm
  rw [Option.some.inj e1, hm] at hc; cases hc))
theorem Mtr.put {k : Nat → Int} {bm be base : Nat} {w W w' : World} {L : List (Sd × Value)} (h : Mtr k bm be base w L) (hb : Below w.heap.size w W) {x : Sd} {v : Value} (hx : Sand k (fn4 x)) (hn : getA L x = none)
  (hR : kE.R 109 W w.heap.size (fun _ => True) v (edgesL k x)) (hbase : base ≤ w.heap.size) (hown : ME.own w' be (L.length + 1) (putA L x v)) (hg : W.grownBy w' (some be)) : Mtr k bm be base w' (putA L x v) := by
 have h2 := h.step hb
 have hmap := h2.map.is
 refine ⟨blk_grown h2.blk hg (fun e => ?_), ⟨MapKd.own_tight hown, fun p hp => ?_, fun y hy => ?_, ?_⟩, fun p hp => ?_⟩
 ·obtain ⟨es, c, hm⟩ := hmap
  have := h2.blk
  rw [Option.some.inj e, hm] at this
  cases this
 ·rw [putA_absent hn] at hp
  rw [qE_some (by
   rcases List.mem_cons.1 hp with rfl | hp
   ·rw [getA_put, if_pos rfl]; rfl
   ·rw [getA_put]
    split
    ·rfl
    ·rw [getA_mem (MapKd.own_nodup h.map.own) (x := p.1) (y := p.2) hp]; rfl)]
  rcases List.mem_cons.1 hp with rfl | hp
  ·exact Kd.R_lower (R_map flatE hR hmap hg) hbase
  ·have := h2.map.row p hp
   rw [qE_some (by rw [getA_mem (MapKd.own_nodup h.map.own) (x := p.1) (y := p.2) hp]; rfl)] at this
   exact R_map flatE this hmap hg
 ·unfold qE
  rw [hy]
  rfl
 ·rw [putA_absent hn]
  refine List.pairwise_cons.2 ⟨fun p hp j hj e1 => ?_, h.map.apart⟩
  have h3 := Kd.R_lt (h.map.row p hp) j e1
  have h4 := Kd.R_base hR j hj
  omega
 ·rw [putA_absent hn] at hp
  rcases List.mem_cons.1 hp with rfl | hp
  ·exact hx
  ·exact h.sand p hp
end Go.Proofs.Ytlhodfjdmafapaa
end
section
namespace Go.Proofs.Ytlhodfjdmafapaa
open Go.RowKit Go.Maps Go.Proofs.YtlhodfjdmafapaaW.PrintWords Go.Proofs.YtlhodfjdmafapaaW.PrintLast
set_option linter.unusedVariables false
set_option linter.unusedSimpArgs false
def MU : MapKd Try.prog 22 Sd Int := mk4 (Value.int .u64) (fun a b e => by injection e)
/-- another row, of another kind, is written -/
theorem QL.over {P : Program} {k : TypeId} {α β : Type} {M : MapKd P k α Value} {d : Kd β} (hd : Flat d) {e e' : TypeId} {w w' : World} {b base n : Nat} {ok : Nat → Prop} {Q : α → List β} {L : List (α × Value)} (h : QL M d e w b base ok n Q L) {u : Value} (hty : ∀ j, u.ownBlock = some j → ∃ cells, w.heap[j]? = some (.cells cells e' (0, 0))) (he : e ≠ e') (hg : w.grownBy w' u.ownBlock) : QL M d e w' b base ok n Q L := by
 refine ⟨MapKd.own_kept h.own hg (fun e1 => ?_), fun p hp => ?_, h.none, h.apart⟩
 ·obtain ⟨cells, hc⟩ := hty b e1.symm
  obtain ⟨es, c, hm⟩ := h.is
  rw [hc] at hm; cases hm
 ·refine R_only hd (h.row p hp) (fun j hj => hg.block j (Kd.R_lt (h.row p hp) j hj) (fun e1 => ?_))
  obtain ⟨cells, hc⟩ := hty j e1.symm
  obtain ⟨cells2, hc2⟩ := Kd.R_typed (h.row p hp) j hj
  rw [hc] at hc2
  injection hc2 with hc2; injection hc2 with _ hc2
  exact he hc2.symm
theorem Mtr.over {k : Nat → Int} {bm be base : Nat} {w w' : World} {L : List (Sd × Value)} (h : Mtr k bm be base w L) {e' : TypeId} {u : Value} (hty : ∀ j, u.ownBlock = some j → ∃ cells, w.heap[j]? = some (.cells cells e' (0, 0))) (he : 109 ≠ e') (hm : 104 ≠ e') (hg : w.grownBy w' u.ownBlock) : Mtr k bm be base w' L :=
 ⟨blk_grown h.blk hg (fun e1 => by
  obtain ⟨cells, hc⟩ := hty bm e1.symm
  rw [h.blk] at hc
  injection hc with hc; injection hc with _ hc
  exact hm hc), h.map.over flatE hty he hg, h.sand⟩
theorem Mtr.map_ {k : Nat → Int} {bm be base : Nat} {w w' : World} {L : List (Sd × Value)} (h : Mtr k bm be base w L) {g : Nat} (hm : ∃ es c, w.heap[g]? = some (.map es c)) (hne : g ≠ be) (hg : w.grownBy w' (some g)) : Mtr k bm be base w' L :=
 ⟨blk_grown h.blk hg (fun e1 => by
  obtain ⟨es, c, hm⟩ := hm
  have := h.blk
  rw [Option.some.inj e1, hm] at this
  cases this), h.map.map hg hne hm, h.sand⟩
/-- all blocks of w are as they were, but b and ob -/
structure Fr2 (w w' : World) (b : Nat) (ob : Option Nat) : Prop where
 os : w'.os = w.os
 tape : w'.tape = w.tape
 output : w'.output = w.output
 size : w.heap.size ≤ w'.heap.size
 block : ∀ j, j < w.heap.size → j ≠ b → some j ≠ ob → w'.heap[j]? = w.heap[j]?
theorem Fr2.step {w wr w' : World} {b : Nat} {ob row : Option Nat} (h : Fr2 w wr b ob) (hg : wr.grownBy w' row) (hr : ∀ j, row = some j → j = b ∨ some j = ob ∨ w.heap.size ≤ j) : Fr2 w w' b ob :=
 ⟨hg.os.trans h.os, hg.tape.trans h.tape, hg.output.trans h.output, Nat.le_trans h.size hg.size, fun j hj h1 h2 => (hg.block j (Nat.lt_of_lt_of_le hj h.size) (fun e => by
  rcases hr j e.symm with c | c | c
  ·exact h1 c
  ·exact h2 c
  ·omega)).trans (h.block j hj h1 h2)⟩
theorem Fr2.below {w wr w' : World} {b : Nat} {ob : Option Nat} (h : Fr2 w wr b ob) (hb : Below wr.heap.size wr w') : Fr2 w w' b ob := h.step (grown_below hb none) (fun j hj => by cases hj)
theorem Fr2.to {w0 w w' : World} {base b : Nat} {ob : Option Nat} (h : Fr2 w w' b ob) (h0 : Below base w0 w) (hbs : base ≤ w.heap.size) (hb : base ≤ b) (hob : ∀ j, ob = some j → base ≤ j) : Below base w0 w' :=
 ⟨h.os.trans h0.os, h.tape.trans h0.tape, h.output.trans h0.output, Nat.le_trans h0.size h.size, fun j hj => by
  exact (h.block j (by omega) (by omega) (fun e => by have := hob j e.symm; omega)).trans (h0.block j hj)⟩
/-- what the loops of spans keep -/
structure SBase (k : Nat → Int) (bm be base : Nat) (w : World) (ob : Option Nat) (O : List (Sd × Int)) (L : List (Sd × Value)) (wr : World) : Prop where
 out : MU.own wr w.heap.size O.length O
 mtr : Mtr k bm be base wr L
 fr : Fr2 w wr be ob
structure SList (w : World) (base : Nat) (ob : Option Nat) (lv : Value) (l : List Sd) (wr : World) : Prop where
 row : k4.R 22 wr base (fun _ => True) lv l
 blk : ∀ j, lv.ownBlock = some j → some j = ob ∨ w.heap.size ≤ j
section
variable {k : Nat → Int} {bm be base : Nat} {w wr w' : World} {ob : Option Nat} {O : List (Sd × Int)} {L : List (Sd × Value)} {lv : Value} {l : List Sd}
theorem SBase.step (h : SBase k bm be base w ob O L wr) (hb : Below wr.heap.size wr w') : SBase k bm be base w ob O L w' := ⟨MapKd.own_below h.out hb, h.mtr.step hb, h.fr.below hb⟩
theorem SList.step (h : SList w base ob lv l wr) (hb : Below wr.heap.size wr w') : SList w base ob lv l w' := ⟨Kd.R_below h.row hb, h.blk⟩
/-- the list is written -/
theorem SBase.list (h : SBase k bm be base w ob O L wr) (hl : SList w base ob lv l wr) (hg : wr.grownBy w' lv.ownBlock) : SBase k bm be base w ob O L w' := by
 refine ⟨MapKd.own_kept h.out hg (fun e => ?_), h.mtr.over (Kd.R_typed hl.row) (by decide) (by decide) hg, h.fr.step hg (fun j hj => .inr (hl.blk j hj))⟩
 obtain ⟨cells, hc⟩ := Kd.R_typed hl.row _ e.symm
 obtain ⟨es, c, hm⟩ := MapKd.own_is h.out
 rw [hc] at hm; cases hm
/-- the map of bits is written -/
theorem SBase.put (h : SBase k bm be base w ob O L wr) (hbe : be < w.heap.size) {O' : List (Sd × Int)} {n : Nat} (ho : MU.own w' w.heap.size n O') (hg : wr.grownBy w' (some w.heap.size)) : SBase k bm be base w ob O' L w' :=
 ⟨MapKd.own_tight ho, h.mtr.map_ (MapKd.own_is h.out) (by omega) hg, h.fr.step hg (fun j hj => .inr (.inr (by have := Option.some.inj hj; omega)))⟩
theorem SList.map_ (h : SList w base ob lv l wr) {g : Nat} (hm : ∃ es c, wr.heap[g]? = some (.map es c)) (hg : wr.grownBy w' (some g)) : SList w base ob lv l w' := ⟨R_map flat4 h.row hm hg, h.blk⟩
end
theorem look_own1 {P : Program} {k : TypeId} {α β : Type} {M : MapKd P k α β} {w : World} {b n : Nat} {L : List (α × β)} (h : M.own w b n L) {t e : TypeId} (ht : P.underlying t = some (.map k e)) {z : β} (hz : ∀ u : World, (zeroValue e).run P u = .ok (M.eV z) u) {key : α} (hg : M.good key) (w' : World) (hb : Below w.heap.size w w') :
  (Instr.lookup t (.map (some b)) (M.eK key) false).run P w' = .ok (M.eV ((getA L key).getD z)) w' := by
 obtain ⟨D, h1, h2⟩ := MapKd.own_below h hb
 obtain ⟨v, ps, hrun, hv⟩ := h1.lookup M.law ht (hz w') (show rdV (M.eV z) = some (.held (M.eV z), []) from rfl) (M.key key hg)
 have hv' : v = M.eV ((getA L key).getD z) := by
  simp only [rdV, Option.some.injEq, Prod.mk.injEq] at hv
  cases e1 : getA L key with
  | some y => rw [h2.at_some e1] at hv; simpa using hv.1
  | none => rw [Maps.atKey_of_not_has (h2.has_none hg e1)] at hv; simpa using hv.1
 rw [hv'] at hrun
 exact hrun
end Go.Proofs.Ytlhodfjdmafapaa
end
section
namespace Go.Proofs.Ytlhodfjdmafapaa
open Go.RowKit Go.Maps Go.Proofs.YtlhodfjdmafapaaW.PrintWords Go.Proofs.YtlhodfjdmafapaaW.PrintLast Go.Proofs.Ytlhodfjdmafapaa.QIm
set_option linter.unusedVariables false
set_option linter.unusedSimpArgs false
theorem row_one (W : World) (base : Nat) (s : Sd) (hb : base ≤ W.heap.size) : k4.R 22 (W.alloc (.cells #[.int .i64 s.1, .int .i64 s.2.1, .int .i64 s.2.2.1, .int .i64 s.2.2.2] 22)) base (fun _ => True) (.slice (some ⟨W.heap.size, 0, none⟩) 1 1) [s] := by
 refine ⟨fun j hj => trivial, [.int .i64 s.1, .int .i64 s.2.1, .int .i64 s.2.2.1, .int .i64 s.2.2.2], ?_, rfl, fun j p hp => ?_⟩
 ·exact World.ownsRow_lit (base := base) (e := 22) (size := 4) W #[.int .i64 s.1, .int .i64 s.2.1, .int .i64 s.2.2.1, .int .i64 s.2.2.2] 1 hb (by decide) rfl
 ·cases j with
  | zero =>
   simp only [List.getElem?_cons_zero, Option.some.injEq] at hp
   subst hp
   exact k4_mkM _ _ _ _
  | succ j => simp at hp
end Go.Proofs.Ytlhodfjdmafapaa
end
section
namespace Go.Proofs.Ytlhodfjdmafapaa
open Go.RowKit Go.Proofs.YtlhodfjdmafapaaW.PrintWords Go.Proofs.YtlhodfjdmafapaaW.PrintLast
set_option linter.unusedVariables false
set_option linter.unusedSimpArgs false
theorem WIn.self (k : Nat → Int) (s : Sd) : ∀ n, WIn k s n s
 | 0 => rfl
 | n + 1 => .inl (WIn.self k s n)
theorem sets_in {k : Nat → Int} {j : Nat} (h : j < 16) : (j : Int) ∈ setsL k ↔ isSetB k j = true := by
 unfold setsL
 rw [List.mem_filter, List.mem_map]
 constructor
 ·exact fun h => h.2
 ·exact fun h2 => ⟨⟨j, List.mem_range.2 h, rfl⟩, h2⟩
set_option maxRecDepth 100000 in
set_option maxHeartbeats 8000000 in
theorem sandsS_c (k : Nat → Int) (s0 s1 s2 s3 : Int) (T : Nat) (hT : T ≤ 3) (hk : isKitB k = true) (hs : isSandB k (fn4 (s0, s1, s2, s3)) = true) (w : World) : Calls Try.prog 31 #[A4 k, .agg #[.int .i64 s0, .int .i64 s1, .int .i64 s2, .int .i64 s3], .int .i64 (T : Int)] w fun e w' => ∃ v0 : Value, e = .returned (.tuple #[v0, .bool true]) ∧ k4.R 22 w' w.heap.size (fun _ => True) v0 (sandsL k (s0, s1, s2, s3) T) ∧ Below w.heap.size w w' := by
 have HKD := Aside0.mk (kit_bounds hk)
 have HSD := Aside0.mk (sand_of hk hs)
 have HS0 := Aside0.mk (show (isSandB k (fn4 (s0, s1, s2, s3)) && isKitB k) = true by rw [hk, hs]; rfl)
 clear hk hs
 go_enter Try.func31, Try.ntmps31
 go_wp2_with fail
 have HBb := Aside0.mk (show Below w.heap.size w ((w.alloc (.cells #[.int .i64 (k 0), .int .i64 (k 1), .int .i64 (k 2), .int .i64 (k 3)] 27 (0, 0))).alloc (.cells #[.int .i64 s0, .int .i64 s1, .int .i64 s2, .int .i64 s3] 22 (0, 0))) from below_alloc (below_alloc (Below.refl _ _) _) _)
 have HKb := Aside0.mk (blk_alloc (heap_alloc_new w (.cells #[.int .i64 (k 0), .int .i64 (k 1), .int .i64 (k 2), .int .i64 (k 3)] 27 (0, 0))) (.cells #[.int .i64 s0, .int .i64 s1, .int .i64 s2, .int .i64 s3] 22 (0, 0)))
 have HSb := Aside0.mk (show ((w.alloc (.cells #[.int .i64 (k 0), .int .i64 (k 1), .int .i64 (k 2), .int .i64 (k 3)] 27 (0, 0))).alloc (.cells #[.int .i64 s0, .int .i64 s1, .int .i64 s2, .int .i64 s3] 22 (0, 0))).heap[w.heap.size + 1]? = some (.cells #[.int .i64 s0, .int .i64 s1, .int .i64 s2, .int .i64 s3] 22 (0, 0)) by
  have := heap_alloc_new (w.alloc (.cells #[.int .i64 (k 0), .int .i64 (k 1), .int .i64 (k 2), .int .i64 (k 3)] 27 (0, 0))) (.cells #[.int .i64 s0, .int .i64 s1, .int .i64 s2, .int .i64 s3] 22 (0, 0))
  simpa using this)
 have HZ := Aside0.mk (show w.heap.size + 1 < ((w.alloc (.cells #[.int .i64 (k 0), .int .i64 (k 1), .int .i64 (k 2), .int .i64 (k 3)] 27 (0, 0))).alloc (.cells #[.int .i64 s0, .int .i64 s1, .int .i64 s2, .int .i64 s3] 22 (0, 0))).heap.size by simp)
 generalize ((w.alloc (.cells #[.int .i64 (k 0), .int .i64 (k 1), .int .i64 (k 2), .int .i64 (k 3)] 27 (0, 0))).alloc (.cells #[.int .i64 s0, .int .i64 s1, .int .i64 s2, .int .i64 s3] 22 (0, 0))) = wb at HBb HKb HSb HZ ⊢
 have hc1 := l2Sand_any k (fn4 (s0, s1, s2, s3))
 rw [HS0.out] at hc1
 refine (hc1 _).mono ?_
 rintro e w1 ⟨rfl, hb⟩
 have HB1 := Aside0.mk hb
 clear hb hc1
 go_wp2_with fail
 have hc2 := l1In_any (T : Int) 0 3
 rw [show inB 0 3 (T : Int) = true from inB_iff.2 ⟨by omega, by omega⟩] at hc2
 refine (hc2 _).mono ?_
 rintro e w2 ⟨rfl, rfl⟩
 clear hc2
 have HS1 := Aside0.mk (blk_below HSb.out HB1.out)
 have r0 : w1.cell? ⟨w.heap.size + 1, 0, none⟩ = some (.int .i64 s0) := (blk_cell HS1.out 0).trans rfl
 have r1 : w1.cell? ⟨w.heap.size + 1, 1, none⟩ = some (.int .i64 s1) := (blk_cell HS1.out 1).trans rfl
 have r2 : w1.cell? ⟨w.heap.size + 1, 2, none⟩ = some (.int .i64 s2) := (blk_cell HS1.out 2).trans rfl
 have r3 : w1.cell? ⟨w.heap.size + 1, 3, none⟩ = some (.int .i64 s3) := (blk_cell HS1.out 3).trans rfl
 go_wp2_with fail
 have HA0 := Aside0.mk (show k4.R 22 (w1.alloc (.cells #[.int .i64 s0, .int .i64 s1, .int .i64 s2, .int .i64 s3] 22 (0, 0))) wb.heap.size (fun _ => True) (.slice (some ⟨w1.heap.size, 0, none⟩) 1 1) [(s0, s1, s2, s3)] from row_one w1 wb.heap.size (s0, s1, s2, s3) (below_size HB1.out))
 have HB2 := Aside0.mk (show Below wb.heap.size wb (w1.alloc (.cells #[.int .i64 s0, .int .i64 s1, .int .i64 s2, .int .i64 s3] 22 (0, 0))) from below_alloc HB1.out _)
 have HW0 := Aside0.mk (show IsW k (s0, s1, s2, s3) (T - T) [(s0, s1, s2, s3)] from by
  rw [Nat.sub_self]
  exact ⟨List.pairwise_singleton _ _, fun x => by simp [WIn]⟩)
 clear r0 r1 r2 r3
 go_loopw [2, 8] (fun v2 v8 wr => ∃ (m : Nat) (va : Value) (all : List Sd), v2 = .int .i64 m ∧ v8 = va ∧ Aside0 (m ≤ T) ∧ Aside0 (k4.R 22 wr wb.heap.size (fun _ => True) va all) ∧ Aside0 (IsW k (s0, s1, s2, s3) (T - m) all) ∧ Aside0 (Below wb.heap.size wb wr)) (fun v2 _ _ => (intOf v2).toNat)
 case atStart => exact ⟨T, _, _, rfl, rfl, ⟨Nat.le_refl _⟩, HA0, HW0, HB2⟩
 case round =>
  clear HA0 HW0 HB2 HS1
  obtain ⟨m, va, all, rfl, rfl, HM, HA, HW, HB⟩ := hrel
  obtain ⟨wz, rfl⟩ : ∃ wz : World, wz = wr := ⟨_, rfl⟩
  by_cases cm : 0 < m
  ·have cm0 : decide (0 < m) = true := decide_eq_true cm
   have cm1 : decide ((m : Int) > 0) = true := decide_eq_true (by omega)
   have cm2 : decide ((0 : Int) < (m : Int)) = true := decide_eq_true (by omega)
   have HSA := Aside0.mk (show ∀ x ∈ all, Sand k (fn4 x) from fun x hx => WIn.sand HSD.out _ ((HW.out.2 x).1 hx))
   have HL := Aside0.mk (show all.length ≤ 1000000 from by
    have := nd_len HKD.out (srt_nodup HW.out.1) HSA.out
    omega)
   have HL0 := Aside0.mk (show 0 < all.length from List.length_pos_of_mem ((HW.out.2 _).2 (WIn.self k (s0, s1, s2, s3) (T - m))))
   obtain ⟨ga, ca, rfl, _, _, _⟩ := Kd.R_form HA.out HL0.out
   go_wp2_with fail
   go_loopw [9, 10] (fun v9 v10 wr => ∃ (i : Nat) (vm : Value) (more : List Sd), v9 = vm ∧ v10 = .int .i64 i ∧ Aside0 (i ≤ all.length) ∧ Aside0 (k4.R 22 wr wb.heap.size (fun _ => True) vm more) ∧ Aside0 (SInvR k all more i 0) ∧ Aside0 (Below wz.heap.size wz wr)) (fun _ v10 _ => all.length + 1 - (intOf v10).toNat)
   case atStart => exact ⟨0, _, all, rfl, rfl, ⟨Nat.zero_le _⟩, HA, ⟨SInvR.start HW.out.1⟩, ⟨Below.refl _ _⟩⟩
   case round =>
    obtain ⟨i, vm, more, rfl, rfl, HI, HMo, HV, HBi⟩ := hrel
    obtain ⟨wy, rfl⟩ : ∃ wy : World, wy = wr := ⟨_, rfl⟩
    have hi := HI.out
    by_cases ci : i < all.length
    ·have ci0 : decide (i < all.length) = true := decide_eq_true ci
     have ci1 : decide ((i : Int) < (all.length : Int)) = true := decide_eq_true (by omega)
     obtain ⟨⟨x0, x1, x2, x3⟩, hx⟩ : ∃ x, all[i]? = some x := ⟨_, List.getElem?_eq_getElem ci⟩
     have HX := Aside0.mk hx
     have HXS := Aside0.mk (HSA.out _ (List.mem_of_getElem? hx))
     clear hx
     go_wp2_with fail
     go_loopw [9, 11] (fun v9 v11 wr => ∃ (j : Nat) (vm : Value) (more : List Sd), v9 = vm ∧ v11 = .int .i64 j ∧ Aside0 (j ≤ 16) ∧ Aside0 (k4.R 22 wr wb.heap.size (fun _ => True) vm more) ∧ Aside0 (SInvR k all more i j) ∧ Aside0 (Below wz.heap.size wz wr)) (fun _ v11 _ => 17 - (intOf v11).toNat)
     case atStart => exact ⟨0, _, more, rfl, rfl, ⟨by omega⟩, HMo, HV, HBi⟩
     case round =>
      clear HMo HV HBi
      obtain ⟨j, vm, more, rfl, rfl, HJ, HMo, HV, HBi⟩ := hrel
      obtain ⟨wx, rfl⟩ : ∃ wx : World, wx = wr := ⟨_, rfl⟩
      have hj := HJ.out
      by_cases cj : j < 16
      ·have cj0 : decide (j < 16) = true := decide_eq_true cj
       have cj1 : decide ((j : Int) < 16) = true := decide_eq_true (by omega)
       have HBx := Aside0.mk (below_chain HB.out HBi.out)
       have HKx := Aside0.mk (blk_below HKb.out HBx.out)
       have HAx := Aside0.mk (Kd.R_below HA.out HBi.out)
       obtain ⟨h0, h1, h2, h3⟩ := cellsOf4 HAx.out HX.out
       have m0 : wx.cell? ⟨w.heap.size, 0, none⟩ = some (.int .i64 (k 0)) := (blk_cell HKx.out 0).trans rfl
       have m1 : wx.cell? ⟨w.heap.size, 1, none⟩ = some (.int .i64 (k 1)) := (blk_cell HKx.out 1).trans rfl
       have m2 : wx.cell? ⟨w.heap.size, 2, none⟩ = some (.int .i64 (k 2)) := (blk_cell HKx.out 2).trans rfl
       have m3 : wx.cell? ⟨w.heap.size, 3, none⟩ = some (.int .i64 (k 3)) := (blk_cell HKx.out 3).trans rfl
       have l1 : w.heap.size < wx.heap.size := blk_lt HKx.out
       have l2 : ga < wx.heap.size := Kd.R_lt HAx.out ga rfl
       obtain ⟨d, hdd⟩ : ∃ d, stepD k (fn4 (x0, x1, x2, x3)) (j : Int) = d := ⟨_, rfl⟩
       obtain ⟨t0, ht0⟩ : ∃ t, stepS k (fn4 (x0, x1, x2, x3)) (j : Int) 0 = t := ⟨_, rfl⟩
       obtain ⟨t1, ht1⟩ : ∃ t, stepS k (fn4 (x0, x1, x2, x3)) (j : Int) 1 = t := ⟨_, rfl⟩
       obtain ⟨t2, ht2⟩ : ∃ t, stepS k (fn4 (x0, x1, x2, x3)) (j : Int) 2 = t := ⟨_, rfl⟩
       obtain ⟨t3, ht3⟩ : ∃ t, stepS k (fn4 (x0, x1, x2, x3)) (j : Int) 3 = t := ⟨_, rfl⟩
       have HSt : ∀ W : World, Calls Try.prog 60 #[A4 k, .agg #[.int .i64 x0, .int .i64 x1, .int .i64 x2, .int .i64 x3], .int .i64 (j : Int)] W fun e w' => e = .returned (.tuple #[.agg #[.int .i64 t0, .int .i64 t1, .int .i64 t2, .int .i64 t3], .int .i64 d]) ∧ Below W.heap.size W w' := by
        intro W
        have := l2Step_any k (fn4 (x0, x1, x2, x3)) (j : Int) HXS.out W
        rw [hdd] at this
        simp only [A4, ht0, ht1, ht2, ht3] at this
        exact this
       have HGO := Aside0.mk (show goS k (x0, x1, x2, x3) (j : Int) = (t0, t1, t2, t3) from by rw [← ht0, ← ht1, ← ht2, ← ht3]; rfl)
       have HGD := Aside0.mk (show goD k (x0, x1, x2, x3) (j : Int) = d from hdd)
       clear hdd ht0 ht1 ht2 ht3
       have MK1 := Aside0.mk (show ∀ W' : World, Below wx.heap.size wx W' → (W'.cell? ⟨w.heap.size, 0, none⟩ = some (.int .i64 (k 0)) ∧ W'.cell? ⟨w.heap.size, 1, none⟩ = some (.int .i64 (k 1)) ∧ W'.cell? ⟨w.heap.size, 2, none⟩ = some (.int .i64 (k 2)) ∧ W'.cell? ⟨w.heap.size, 3, none⟩ = some (.int .i64 (k 3))) ∧ W'.cell? ⟨ga, i * 4, none⟩ = some (.int .i64 x0) ∧ W'.cell? ⟨ga, i * 4 + 1, none⟩ = some (.int .i64 x1) ∧ W'.cell? ⟨ga, i * 4 + 2, none⟩ = some (.int .i64 x2) ∧ W'.cell? ⟨ga, i * 4 + 3, none⟩ = some (.int .i64 x3) from fun W' hb => ⟨⟨keep_below hb m0, keep_below hb m1, keep_below hb m2, keep_below hb m3⟩, keep_below hb h0, keep_below hb h1, keep_below hb h2, keep_below hb h3⟩)
       have p0 : (0 : Int) ≤ (i : Int) := by omega
       have p1 : (i : Int) < (all.length : Int) := by omega
       clear m0 m1 m2 m3 h0 h1 h2 h3
       go_wp2_with fail
       go_cut [12, 13] (fun v12 v13 wq => ∃ gx : Nat, v12 = .pointer (some ⟨gx, 0, none⟩) ∧ v13 = .int .i64 d ∧ wq.cell? ⟨gx, 0, none⟩ = some (.int .i64 t0) ∧ wq.cell? ⟨gx, 1, none⟩ = some (.int .i64 t1) ∧ wq.cell? ⟨gx, 2, none⟩ = some (.int .i64 t2) ∧ wq.cell? ⟨gx, 3, none⟩ = some (.int .i64 t3) ∧ Aside0 (Below wx.heap.size wx wq))
       case first =>
        go_region_held3 (fun w' => (w'.cell? ⟨w.heap.size, 0, none⟩ = some (.int .i64 (k 0)) ∧ w'.cell? ⟨w.heap.size, 1, none⟩ = some (.int .i64 (k 1)) ∧ w'.cell? ⟨w.heap.size, 2, none⟩ = some (.int .i64 (k 2)) ∧ w'.cell? ⟨w.heap.size, 3, none⟩ = some (.int .i64 (k 3))) ∧ w'.cell? ⟨ga, i * 4, none⟩ = some (.int .i64 x0) ∧ w'.cell? ⟨ga, i * 4 + 1, none⟩ = some (.int .i64 x1) ∧ w'.cell? ⟨ga, i * 4 + 2, none⟩ = some (.int .i64 x2) ∧ w'.cell? ⟨ga, i * 4 + 3, none⟩ = some (.int .i64 x3))
         (first | (refine MK1.out _ ?_; ((repeat first | (with_reducible assumption) | (with_reducible exact Below.refl _ _) | ((with_reducible refine bl_alloc _ ?_ ?_); focus (first | (simp; done) | (simp; omega) | omega | (with_reducible exact below_size (by with_reducible assumption)))) | ((with_reducible refine bl_set _ ?_ ?_); focus (first | (simp; done) | (simp; omega) | omega | (with_reducible exact below_size (by with_reducible assumption)))) | (with_reducible refine Below.drew ?_) | (with_reducible refine bl_drewN _ ?_)); done)))
         (first
          | (go_at_call 60; refine (HSt _).mono ?_; rintro e w5 ⟨rfl, hb5⟩; have q5 : Below wx.heap.size wx w5 := below_chain (by ((repeat first | (with_reducible assumption) | (with_reducible exact Below.refl _ _) | ((with_reducible refine bl_alloc _ ?_ ?_); focus (first | (simp; done) | (simp; omega) | omega | (with_reducible exact below_size (by with_reducible assumption)))) | ((with_reducible refine bl_set _ ?_ ?_); focus (first | (simp; done) | (simp; omega) | omega | (with_reducible exact below_size (by with_reducible assumption)))) | (with_reducible refine Below.drew ?_) | (with_reducible refine bl_drewN _ ?_)); done)) hb5; have z0 := below_size q5; try (have hx5 : w5.heap[wx.heap.size]? = some (.cells #[.int .i64 0, .int .i64 0, .int .i64 0, .int .i64 0] 22 (0, 0)) := blk_below (by first | (with_reducible refine box_new ?_; first | rfl | simp) | (with_reducible refine blk_drew (box_new ?_); first | rfl | simp)) hb5; have z1 := blk_lt hx5; have y0 : w5.cell? ⟨wx.heap.size, 0, none⟩ = some (.int .i64 0) := (blk_cell hx5 0).trans rfl; have y1 : w5.cell? ⟨wx.heap.size, 1, none⟩ = some (.int .i64 0) := (blk_cell hx5 1).trans rfl; have y2 : w5.cell? ⟨wx.heap.size, 2, none⟩ = some (.int .i64 0) := (blk_cell hx5 2).trans rfl; have y3 : w5.cell? ⟨wx.heap.size, 3, none⟩ = some (.int .i64 0) := (blk_cell hx5 3).trans rfl; have f0 := blk_frozen hx5 0; have f1 := blk_frozen hx5 1; have f2 := blk_frozen hx5 2; have f3 := blk_frozen hx5 3; clear hx5)))
        all_goals
         go_wp2_with fail
         go_meet
         refine ⟨_, rfl, rfl, ?_, ?_, ?_, ?_, ⟨by ((repeat first | (with_reducible assumption) | (with_reducible exact Below.refl _ _) | ((with_reducible refine bl_alloc _ ?_ ?_); focus (first | (simp; done) | (simp; omega) | omega | (with_reducible exact below_size (by with_reducible assumption)))) | ((with_reducible refine bl_set _ ?_ ?_); focus (first | (simp; done) | (simp; omega) | omega | (with_reducible exact below_size (by with_reducible assumption)))) | (with_reducible refine Below.drew ?_) | (with_reducible refine bl_drewN _ ?_)); done)⟩⟩
         all_goals (first | ((with_reducible refine set4_0 (.int .i64 0) ?_); (with_reducible assumption)) | ((with_reducible refine set4_1 (.int .i64 0) ?_); (with_reducible assumption)) | ((with_reducible refine set4_2 (.int .i64 0) ?_); (with_reducible assumption)) | ((with_reducible refine set4_3 (.int .i64 0) ?_); (with_reducible assumption)) | (simp [go_sem]; done))
       case rest =>
        obtain ⟨gx, rfl, rfl, t0c, t1c, t2c, t3c, HBc⟩ := hcut
        have HTC := Aside0.mk (show ∀ W' : World, Below wc.heap.size wc W' → W'.cell? ⟨gx, 0, none⟩ = some (.int .i64 t0) ∧ W'.cell? ⟨gx, 1, none⟩ = some (.int .i64 t1) ∧ W'.cell? ⟨gx, 2, none⟩ = some (.int .i64 t2) ∧ W'.cell? ⟨gx, 3, none⟩ = some (.int .i64 t3) from fun W' hb => ⟨keep_below hb t0c, keep_below hb t1c, keep_below hb t2c, keep_below hb t3c⟩)
        obtain ⟨⟨m0, m1, m2, m3⟩, _⟩ := MK1.out wc HBc.out
        clear t0c t1c t2c t3c
        go_wp2_with fail
        refine (l2Set_any k (j : Int) _).mono ?_
        rintro e w6 ⟨rfl, hb6⟩
        have HB6 := Aside0.mk (below_chain HBc.out hb6)
        obtain ⟨r0, r1, r2, r3⟩ := HTC.out w6 hb6
        have HBi6 := Aside0.mk (below_chain HBi.out HB6.out)
        have HM6 := Aside0.mk (Kd.R_below HMo.out HB6.out)
        clear hb6 m0 m1 m2 m3
        cases hset : isSetB k (j : Int) with
        | false =>
         have HV2 := Aside0.mk (HV.out.skip HX.out (fun h => by rw [sets_in cj, hset] at h; cases h.1))
         clear hset
         go_wp2_with fail
         exact ⟨⟨j + 1, _, more, rfl, by go_num, ⟨by omega⟩, HM6, HV2, HBi6⟩, by simp only [intOf]; omega⟩
        | true =>
         have HSE := Aside0.mk ((sets_in (k := k) cj).2 hset)
         clear hset
         by_cases cd : 0 < d
         ·have cd0 : decide (0 < d) = true := decide_eq_true cd
          have cd1 : decide (d > 0) = true := decide_eq_true cd
          have HV2 := Aside0.mk (show SInvR k all (insL more (t0, t1, t2, t3)) i (j + 1) from HGO.out ▸ HV.out.add HX.out HSE.out (by rw [HGD.out]; exact cd))
          have HSM := Aside0.mk (HV.out.sand HSA.out)
          have hlm : more.length ≤ 1000000 := by
           have := nd_len HKD.out (srt_nodup HV.out.srt) HSM.out
           omega
          have hlm0 : 0 < more.length := by
           obtain ⟨y, hy⟩ := List.exists_mem_of_length_pos HL0.out
           exact List.length_pos_of_mem ((HV.out.mem y).2 (.inl hy))
          obtain ⟨gm, cm', rfl, _, _, _⟩ := Kd.R_form HM6.out hlm0
          go_wp2_with fail
          refine (put_any t0 t1 t2 t3 more hlm0 hlm gm cm' wb.heap.size _ (Nat.le_trans HB.out.size HBi6.out.size) HM6.out).mono ?_
          rintro e w7 ⟨v7, rfl, hR7, hb7⟩
          have HR7 := Aside0.mk hR7
          have HB7 := Aside0.mk (below_chain HBi6.out hb7)
          clear hR7 hb7
          go_wp2_with fail
          exact ⟨⟨j + 1, _, _, rfl, by go_num, ⟨by omega⟩, HR7, HV2, HB7⟩, by simp only [intOf]; omega⟩
         ·have cd0 : decide (0 < d) = false := decide_eq_false cd
          have cd1 : decide (d > 0) = false := decide_eq_false cd
          have HV2 := Aside0.mk (HV.out.skip HX.out (fun h => by rw [HGD.out] at h; exact cd h.2))
          go_wp2_with fail
          exact ⟨⟨j + 1, _, more, rfl, by go_num, ⟨by omega⟩, HM6, HV2, HBi6⟩, by simp only [intOf]; omega⟩
      ·have cj0 : decide (j < 16) = false := decide_eq_false cj
       have cj1 : decide ((j : Int) < 16) = false := decide_eq_false (by omega)
       obtain rfl : j = 16 := by omega
       have hll := HL.out
       go_wp2_with fail
       exact ⟨⟨i + 1, _, more, rfl, by go_num, ⟨by omega⟩, HMo, ⟨HV.out.turn HX.out⟩, HBi⟩, by simp only [intOf]; omega⟩
    ·have ci0 : decide (i < all.length) = false := decide_eq_false ci
     have ci1 : decide ((i : Int) < (all.length : Int)) = false := decide_eq_false (by omega)
     obtain rfl : i = all.length := by omega
     have HW2 := Aside0.mk (show IsW k (s0, s1, s2, s3) (T - (m - 1)) more from by
      have := HM.out
      rw [show T - (m - 1) = (T - m) + 1 by omega]
      exact HV.out.done HW.out)
     have HB3 := Aside0.mk (below_chain HB.out HBi.out)
     have hmm := HM.out
     go_wp2_with fail
     exact ⟨⟨m - 1, _, more, by go_num, rfl, ⟨by have := HM.out; omega⟩, HMo, HW2, HB3⟩, by simp only [intOf]; omega⟩
  ·have cm0 : decide (0 < m) = false := decide_eq_false cm
   have cm1 : decide ((m : Int) > 0) = false := decide_eq_false (by omega)
   have cm2 : decide ((0 : Int) < (m : Int)) = false := decide_eq_false (by omega)
   obtain rfl : m = 0 := by omega
   have h := HA.out
   rw [sandsL_is (n := T) HW.out] at h
   have HF := Aside0.mk (Kd.R_lower h HBb.out.size)
   clear h
   have HBF := Aside0.mk (below_chain HBb.out HB.out)
   go_wp2_with fail
   go_ret2
   exact ⟨_, rfl, HF.out, HBF.out⟩
end Go.Proofs.Ytlhodfjdmafapaa
end
section
namespace Go.Proofs
open Go.Shelf
def Try.laysSlF06_f67_ren : Go.Shelf.Ren := ⟨fun | 6 => 67 | 15 => 95 | 14 => 94 | 28 => 113 | 29 => 114 | 20 => 105 | 21 => 106 | 22 => 107 | 23 => 108 | 24 => 109 | 25 => 110 | 26 => 111 | 27 => 112 | 46 => 120 | 47 => 121 | 48 => 122 | 49 => 123 | 50 => 124 | 57 => 128 | n => n, fun | 22 => 43 | 24 => 22 | 25 => 79 | 3 => 3 | 39 => 117 | 0 => 0 | 53 => 140 | 55 => 63 | 4 => 4 | 46 => 134 | 45 => 133 | 50 => 25 | 5 => 5 | 9 => 9 | 66 => 148 | 70 => 152 | 76 => 154 | 77 => 155 | n => n, fun | n => n⟩
theorem Try.laysSlF06_f67 : Go.Proofs.SlLaysF0.n6 Try.prog Try.laysSlF06_f67_ren := {
 mixed := by kernel_rfl
 f6 := ⟨Try.f67.name, by decide, Try.func67.trans (congrArg some (by kernel_rfl))⟩
 f14 := ⟨Try.f94.name, by decide, Try.func94.trans (congrArg some (by kernel_rfl))⟩
 f15 := Try.func95.trans (congrArg some (by kernel_rfl))
 f20 := ⟨Try.f105.name, by decide, Try.func105.trans (congrArg some (by kernel_rfl))⟩
 f21 := ⟨Try.f106.name, by decide, Try.func106.trans (congrArg some (by kernel_rfl))⟩
 f22 := ⟨Try.f107.name, by decide, Try.func107.trans (congrArg some (by kernel_rfl))⟩
 f23 := ⟨Try.f108.name, by decide, Try.func108.trans (congrArg some (by kernel_rfl))⟩
 f24 := ⟨Try.f109.name, by decide, Try.func109.trans (congrArg some (by kernel_rfl))⟩
 f25 := ⟨Try.f110.name, by decide, Try.func110.trans (congrArg some (by kernel_rfl))⟩
 f26 := ⟨Try.f111.name, by decide, Try.func111.trans (congrArg some (by kernel_rfl))⟩
 f27 := ⟨Try.f112.name, by decide, Try.func112.trans (congrArg some (by kernel_rfl))⟩
 f28 := Try.func113.trans (congrArg some (by kernel_rfl))
 f29 := Try.func114.trans (congrArg some (by kernel_rfl))
 f46 := ⟨Try.f120.name, by decide, Try.func120.trans (congrArg some (by kernel_rfl))⟩
 f47 := Try.func121.trans (congrArg some (by kernel_rfl))
 f48 := Try.func122.trans (congrArg some (by kernel_rfl))
 f49 := ⟨Try.f123.name, by decide, Try.func123.trans (congrArg some (by kernel_rfl))⟩
 f50 := ⟨Try.f124.name, by decide, Try.func124.trans (congrArg some (by kernel_rfl))⟩
 f57 := ⟨Try.f128.name, by decide, Try.func128.trans (congrArg some (by kernel_rfl))⟩
 t0 := Try.underlying0
 a0 := Try.isAgg0
 z0 := Try.sizeOf0
 v0 := Try.zeroValue0
 t3 := Try.underlying3
 a3 := Try.isAgg3
 z3 := Try.sizeOf3
 v3 := Try.zeroValue3
 t4 := Try.underlying4
 a4 := Try.isAgg4
 z4 := Try.sizeOf4
 v4 := Try.zeroValue4
 t5 := Try.underlying5
 a5 := Try.isAgg5
 z5 := Try.sizeOf5
 v5 := Try.zeroValue5
 t9 := Try.underlying9
 a9 := Try.isAgg9
 z9 := Try.sizeOf9
 v9 := Try.zeroValue9
 t22 := Try.underlying43
 a22 := Try.isAgg43
 z22 := Try.sizeOf43
 v22 := Try.zeroValue43
 t25 := Try.underlying79
 a25 := Try.isAgg79
 z25 := Try.sizeOf79
 v25 := Try.zeroValue79
 t39 := Try.underlying117
 a39 := Try.isAgg117
 z39 := Try.sizeOf117
 v39 := Try.zeroValue117
 t45 := Try.underlying133
 a45 := Try.isAgg133
 z45 := Try.sizeOf133
 v45 := Try.zeroValue133
 t46 := Try.underlying134
 a46 := Try.isAgg134
 z46 := Try.sizeOf134
 v46 := Try.zeroValue134
 t50 := Try.underlying25
 a50 := Try.isAgg25
 z50 := Try.sizeOf25
 v50 := Try.zeroValue25
 t53 := Try.underlying140
 a53 := Try.isAgg140
 z53 := Try.sizeOf140
 v53 := Try.zeroValue140
 t55 := Try.underlying63
 a55 := Try.isAgg63
 z55 := Try.sizeOf63
 v55 := Try.zeroValue63
 t66 := Try.underlying148
 a66 := Try.isAgg148
 z66 := Try.sizeOf148
 v66 := Try.zeroValue148
 t70 := Try.underlying152
 a70 := Try.isAgg152
 z70 := Try.sizeOf152
 v70 := Try.zeroValue152
 t76 := Try.underlying154
 a76 := Try.isAgg154
 z76 := Try.sizeOf154
 v76 := Try.zeroValue154
 t77 := Try.underlying155
 a77 := Try.isAgg155
 z77 := Try.sizeOf155
 v77 := Try.zeroValue155 }
open Go.RowKit Go.Lib Go.Sort in
/-- .. at structs. (LAID AT THE INSTANCE 'slices.SortFunc[[][4]int,[4]int]': no walk: one application.) -/
theorem Try.slices_SortFunc_total {α : Type} [Inhabited α] (k : Nat) (aE : ∀ w, (isAgg 22).run Try.prog w = .ok true w) (zE : ∀ w, (Go.sizeOf 22).run Try.prog w = .ok k w) (enc : α → List Value) (hk : ∀ x, (enc x).length = k) (h1 : ∀ x, ∀ v ∈ enc x, v.oneCell' = true) (cf : α → α → Int) (hO : SWO (ltOf cf)) (g : Nat) (cb : Array Value) (blk off cap : Nat) (d : Array α) (w : World) (eg : ∀ args w, (callFunc g args).run Try.prog w = .ok (.enter g args) w) (hcmp : CmpLays Try.prog g cb enc k cf blk off d.size w) (hH : HoldsK enc k w blk off d) (hblk : blk < w.heap.size) (hsz : d.size < 4611686018427387904) (hT : ∀ x y, (ltOf cf) x y = false → (ltOf cf) y x = false → x = y) :
  Calls Try.prog 67 #[.slice (some ⟨blk, off, none⟩) d.size cap, .func (.func g) #[] cb] w fun e w' =>
   e = .returned (.tuple #[]) ∧ ∃ n os, w' = sortWorldK enc k w blk off n (d.toList.mergeSort fun x y => !(ltOf cf) y x).toArray os := AnyQ.slices_SortFunc_total Try.laysSlF06_f67 k aE zE enc hk h1 cf hO g cb blk off cap d w eg hcmp hH hblk hsz hT
end Go.Proofs
end
section
namespace Go.Proofs.Ytlhodfjdmafapaa.QSn
open Go.RowKit Go.Proofs.YtlhodfjdmafapaaW.PrintWords Go.Proofs.YtlhodfjdmafapaaW.PrintLast Go.Proofs.YtlhodfjdmafapaaW.PrintMore
attribute [local go_sem] max2_int min2_int max_two min_two max_three min_three max_four min_four   -- for this text's walks alone
set_option linter.unusedVariables false
set_option linter.unusedSimpArgs false
def errW : Option Int → Value
 | none => .nilIface
 | some c => .iface 0 (.int .i64 c)
theorem errW_none : errW none = .nilIface := rfl
theorem errW_some (c : Int) : errW (some c) = .iface 0 (.int .i64 c) := rfl
-- the values' own types
end Go.Proofs.Ytlhodfjdmafapaa.QSn
end
section
namespace Go.Proofs.Ytlhodfjdmafapaa.QSn
open Go.RowKit Go.Proofs.YtlhodfjdmafapaaW.PrintWords Go.Proofs.YtlhodfjdmafapaaW.PrintLast Go.Proofs.YtlhodfjdmafapaaW.PrintMore
attribute [local go_sem] max2_int min2_int max_two min_two max_three min_three max_four min_four   -- for this text's walks alone
set_option linter.unusedVariables false
set_option linter.unusedSimpArgs false
/-! ### cmp_isNaN_int: function 125 -/
def cmp_isNaN_int.f (a0 : Int) : Option (Bool) := some (a0 != a0)
set_option maxHeartbeats 8000000 in
set_option maxRecDepth 100000 in
theorem cmp_isNaN_int.calls (a0 : Int) (r : Bool) (w : World) (h : cmp_isNaN_int.f a0 = some r) :
  Calls Try.prog 125 #[.int .i64 a0] w fun e w' => e = .returned (.bool r) ∧ Drawn0 w w' := by
 have H : (some (a0 != a0)) = some r := h
 clear h
 obtain rfl := Option.some.inj H
 go_enter Try.func125, Try.ntmps125
 go_wp2
 go_ret
 exact ⟨by first | rfl | (simp; done) | (simp [*]; done), by repeat (first | exact Drawn0.refl _ | apply Drawn0.step)⟩
/-! ### cmp_Compare_int: function 115 -/
def cmp_Compare_int.f (a0 : Int) (a1 : Int) : Option (Int) := (cmp_isNaN_int.f a0).bind fun t101 => ((cmp_isNaN_int.f a1).bind fun t102 => (if t101 = true then (if t102 = true then (some 0) else (some (-1))) else (if t102 = true then (some 1) else (if a0 < a1 then (some (-1)) else (if a0 > a1 then (some 1) else (some 0))))))
set_option maxHeartbeats 8000000 in
set_option maxRecDepth 100000 in
theorem cmp_Compare_int.calls (a0 : Int) (a1 : Int) (r : Int) (w : World) (h : cmp_Compare_int.f a0 a1 = some r) :
  Calls Try.prog 115 #[.int .i64 a0, .int .i64 a1] w fun e w' => e = .returned (.int .i64 r) ∧ Drawn0 w w' := by
 have H : ((cmp_isNaN_int.f a0).bind fun t101 => ((cmp_isNaN_int.f a1).bind fun t102 => (if t101 = true then (if t102 = true then (some 0) else (some (-1))) else (if t102 = true then (some 1) else (if a0 < a1 then (some (-1)) else (if a0 > a1 then (some 1) else (some 0))))))) = some r := h
 clear h
 replace H := Option.bind_eq_some_iff.mp H
 obtain ⟨t101, A30, H⟩ := H
 replace H : ((cmp_isNaN_int.f a1).bind fun t102 => (if t101 = true then (if t102 = true then (some 0) else (some (-1))) else (if t102 = true then (some 1) else (if a0 < a1 then (some (-1)) else (if a0 > a1 then (some 1) else (some 0)))))) = some r := H
 have A3 := Aside0.mk A30
 clear A30
 replace H := Option.bind_eq_some_iff.mp H
 obtain ⟨t102, A40, H⟩ := H
 replace H : (if t101 = true then (if t102 = true then (some 0) else (some (-1))) else (if t102 = true then (some 1) else (if a0 < a1 then (some (-1)) else (if a0 > a1 then (some 1) else (some 0))))) = some r := H
 have A4 := Aside0.mk A40
 clear A40
 by_cases c5 : t101 = true
 ·subst c5
  have H1 : (if t102 = true then (some 0) else (some (-1))) = some r := by rw [if_pos rfl] at H; exact H
  clear H
  have H := H1
  clear H1
  by_cases c6 : t102 = true
  ·subst c6
   have H1 : (some 0) = some r := by rw [if_pos rfl] at H; exact H
   clear H
   have H := H1
   clear H1
   obtain rfl := Option.some.inj H
   go_enter Try.func115, Try.ntmps115
   go_wp2_with (first | ((with_reducible refine gate_callee (f := 125) rfl ?_); refine goesL_ (some 8) rfl rfl Try.func125 (by kernel_rfl) rfl #[.int .i64 a0] rfl (by (try simp only [List.map_toArray, List.map_cons, List.map_nil]); first | done | rfl | (simp only [List.length_drop, List.length_take]; rfl)) ?_; (with_reducible refine (cmp_isNaN_int.calls a0 true _ A3.out).mono ?_); rintro e w' ⟨rfl, ⟨nd, rfl⟩⟩; refine ⟨_, rfl, ?_⟩) | ((with_reducible refine gate_callee (f := 125) rfl ?_); refine goesL_ (some 10) rfl rfl Try.func125 (by kernel_rfl) rfl #[.int .i64 a1] rfl (by (try simp only [List.map_toArray, List.map_cons, List.map_nil]); first | done | rfl | (simp only [List.length_drop, List.length_take]; rfl)) ?_; (with_reducible refine (cmp_isNaN_int.calls a1 true _ A4.out).mono ?_); rintro e w' ⟨rfl, ⟨nd, rfl⟩⟩; refine ⟨_, rfl, ?_⟩))
   go_ret
   exact ⟨by first | rfl | (simp; done) | (simp [*]; done), by repeat (first | exact Drawn0.refl _ | apply Drawn0.step)⟩
  ·replace c6 := Bool.eq_false_iff.mpr c6
   subst c6
   have H1 : (some (-1)) = some r := by rw [if_neg (show ¬ (false = true) by decide)] at H; exact H
   clear H
   have H := H1
   clear H1
   obtain rfl := Option.some.inj H
   go_enter Try.func115, Try.ntmps115
   go_wp2_with (first | ((with_reducible refine gate_callee (f := 125) rfl ?_); refine goesL_ (some 8) rfl rfl Try.func125 (by kernel_rfl) rfl #[.int .i64 a0] rfl (by (try simp only [List.map_toArray, List.map_cons, List.map_nil]); first | done | rfl | (simp only [List.length_drop, List.length_take]; rfl)) ?_; (with_reducible refine (cmp_isNaN_int.calls a0 true _ A3.out).mono ?_); rintro e w' ⟨rfl, ⟨nd, rfl⟩⟩; refine ⟨_, rfl, ?_⟩) | ((with_reducible refine gate_callee (f := 125) rfl ?_); refine goesL_ (some 10) rfl rfl Try.func125 (by kernel_rfl) rfl #[.int .i64 a1] rfl (by (try simp only [List.map_toArray, List.map_cons, List.map_nil]); first | done | rfl | (simp only [List.length_drop, List.length_take]; rfl)) ?_; (with_reducible refine (cmp_isNaN_int.calls a1 false _ A4.out).mono ?_); rintro e w' ⟨rfl, ⟨nd, rfl⟩⟩; refine ⟨_, rfl, ?_⟩))
   go_ret
   exact ⟨by first | rfl | (simp; done) | (simp [*]; done), by repeat (first | exact Drawn0.refl _ | apply Drawn0.step)⟩
 ·replace c5 := Bool.eq_false_iff.mpr c5
  subst c5
  have H1 : (if t102 = true then (some 1) else (if a0 < a1 then (some (-1)) else (if a0 > a1 then (some 1) else (some 0)))) = some r := by rw [if_neg (show ¬ (false = true) by decide)] at H; exact H
  clear H
  have H := H1
  clear H1
  by_cases c7 : t102 = true
  ·subst c7
   have H1 : (some 1) = some r := by rw [if_pos rfl] at H; exact H
   clear H
   have H := H1
   clear H1
   obtain rfl := Option.some.inj H
   go_enter Try.func115, Try.ntmps115
   go_wp2_with (first | ((with_reducible refine gate_callee (f := 125) rfl ?_); refine goesL_ (some 8) rfl rfl Try.func125 (by kernel_rfl) rfl #[.int .i64 a0] rfl (by (try simp only [List.map_toArray, List.map_cons, List.map_nil]); first | done | rfl | (simp only [List.length_drop, List.length_take]; rfl)) ?_; (with_reducible refine (cmp_isNaN_int.calls a0 false _ A3.out).mono ?_); rintro e w' ⟨rfl, ⟨nd, rfl⟩⟩; refine ⟨_, rfl, ?_⟩) | ((with_reducible refine gate_callee (f := 125) rfl ?_); refine goesL_ (some 10) rfl rfl Try.func125 (by kernel_rfl) rfl #[.int .i64 a1] rfl (by (try simp only [List.map_toArray, List.map_cons, List.map_nil]); first | done | rfl | (simp only [List.length_drop, List.length_take]; rfl)) ?_; (with_reducible refine (cmp_isNaN_int.calls a1 true _ A4.out).mono ?_); rintro e w' ⟨rfl, ⟨nd, rfl⟩⟩; refine ⟨_, rfl, ?_⟩))
   go_ret
   exact ⟨by first | rfl | (simp; done) | (simp [*]; done), by repeat (first | exact Drawn0.refl _ | apply Drawn0.step)⟩
  ·replace c7 := Bool.eq_false_iff.mpr c7
   subst c7
   have H1 : (if a0 < a1 then (some (-1)) else (if a0 > a1 then (some 1) else (some 0))) = some r := by rw [if_neg (show ¬ (false = true) by decide)] at H; exact H
   clear H
   have H := H1
   clear H1
   by_cases c8 : a0 < a1
   ·rw [if_pos c8] at H
    have c8b0 : decide (a0 < a1) = true := decide_eq_true c8
    clear c8
    obtain rfl := Option.some.inj H
    go_enter Try.func115, Try.ntmps115
    go_wp2_with (first | ((with_reducible refine gate_callee (f := 125) rfl ?_); refine goesL_ (some 8) rfl rfl Try.func125 (by kernel_rfl) rfl #[.int .i64 a0] rfl (by (try simp only [List.map_toArray, List.map_cons, List.map_nil]); first | done | rfl | (simp only [List.length_drop, List.length_take]; rfl)) ?_; (with_reducible refine (cmp_isNaN_int.calls a0 false _ A3.out).mono ?_); rintro e w' ⟨rfl, ⟨nd, rfl⟩⟩; refine ⟨_, rfl, ?_⟩) | ((with_reducible refine gate_callee (f := 125) rfl ?_); refine goesL_ (some 10) rfl rfl Try.func125 (by kernel_rfl) rfl #[.int .i64 a1] rfl (by (try simp only [List.map_toArray, List.map_cons, List.map_nil]); first | done | rfl | (simp only [List.length_drop, List.length_take]; rfl)) ?_; (with_reducible refine (cmp_isNaN_int.calls a1 false _ A4.out).mono ?_); rintro e w' ⟨rfl, ⟨nd, rfl⟩⟩; refine ⟨_, rfl, ?_⟩))
    go_ret
    exact ⟨by first | rfl | (simp; done) | (simp [*]; done), by repeat (first | exact Drawn0.refl _ | apply Drawn0.step)⟩
   ·rw [if_neg c8] at H
    have c8b0 : decide (a0 < a1) = false := decide_eq_false c8
    clear c8
    by_cases c9 : a0 > a1
    ·rw [if_pos c9] at H
     have c9b0 : decide (a1 < a0) = true := decide_eq_true c9
     clear c9
     obtain rfl := Option.some.inj H
     go_enter Try.func115, Try.ntmps115
     go_wp2_with (first | ((with_reducible refine gate_callee (f := 125) rfl ?_); refine goesL_ (some 8) rfl rfl Try.func125 (by kernel_rfl) rfl #[.int .i64 a0] rfl (by (try simp only [List.map_toArray, List.map_cons, List.map_nil]); first | done | rfl | (simp only [List.length_drop, List.length_take]; rfl)) ?_; (with_reducible refine (cmp_isNaN_int.calls a0 false _ A3.out).mono ?_); rintro e w' ⟨rfl, ⟨nd, rfl⟩⟩; refine ⟨_, rfl, ?_⟩) | ((with_reducible refine gate_callee (f := 125) rfl ?_); refine goesL_ (some 10) rfl rfl Try.func125 (by kernel_rfl) rfl #[.int .i64 a1] rfl (by (try simp only [List.map_toArray, List.map_cons, List.map_nil]); first | done | rfl | (simp only [List.length_drop, List.length_take]; rfl)) ?_; (with_reducible refine (cmp_isNaN_int.calls a1 false _ A4.out).mono ?_); rintro e w' ⟨rfl, ⟨nd, rfl⟩⟩; refine ⟨_, rfl, ?_⟩))
     go_ret
     exact ⟨by first | rfl | (simp; done) | (simp [*]; done), by repeat (first | exact Drawn0.refl _ | apply Drawn0.step)⟩
    ·rw [if_neg c9] at H
     have c9b0 : decide (a1 < a0) = false := decide_eq_false c9
     clear c9
     obtain rfl := Option.some.inj H
     go_enter Try.func115, Try.ntmps115
     go_wp2_with (first | ((with_reducible refine gate_callee (f := 125) rfl ?_); refine goesL_ (some 8) rfl rfl Try.func125 (by kernel_rfl) rfl #[.int .i64 a0] rfl (by (try simp only [List.map_toArray, List.map_cons, List.map_nil]); first | done | rfl | (simp only [List.length_drop, List.length_take]; rfl)) ?_; (with_reducible refine (cmp_isNaN_int.calls a0 false _ A3.out).mono ?_); rintro e w' ⟨rfl, ⟨nd, rfl⟩⟩; refine ⟨_, rfl, ?_⟩) | ((with_reducible refine gate_callee (f := 125) rfl ?_); refine goesL_ (some 10) rfl rfl Try.func125 (by kernel_rfl) rfl #[.int .i64 a1] rfl (by (try simp only [List.map_toArray, List.map_cons, List.map_nil]); first | done | rfl | (simp only [List.length_drop, List.length_take]; rfl)) ?_; (with_reducible refine (cmp_isNaN_int.calls a1 false _ A4.out).mono ?_); rintro e w' ⟨rfl, ⟨nd, rfl⟩⟩; refine ⟨_, rfl, ?_⟩))
     go_ret
     exact ⟨by first | rfl | (simp; done) | (simp [*]; done), by repeat (first | exact Drawn0.refl _ | apply Drawn0.step)⟩
/-! ### slices_Compare_int_int: function 96 -/
def slices_Compare_int_int.l0 : Nat → List Int → List Int → List Int → Int → Int → Option (Int)
 | 0, _, _, _, _, _ => none
 | k + 1, x0, x1, x9, x10, x11 => if x11 < x10 then (if 0 ≤ x11 then (if x11 < (x9.length : Int) then (if x11 ≥ (x1.length : Int) then (some 1) else (if x11 < (x1.length : Int) then ((cmp_Compare_int.f (rd x9 x11) (rd x1 x11)).bind fun t105 => (if t105 = 0 then (slices_Compare_int_int.l0 k x0 x1 x9 x10 (wrap64 (x11 + 1))) else (some t105))) else (none))) else (none)) else (none)) else (if (x0.length : Int) < (x1.length : Int) then (some (-1)) else (some 0))
def slices_Compare_int_int.f (k : Nat) (l0 : List Int) (l1 : List Int) : Option (Int) := slices_Compare_int_int.l0 k l0 l1 l0 (l0.length : Int) 0
theorem slices_Compare_int_int.mono_l : ∀ k, (∀ y0 y1 y2 y3 y4, LeO (slices_Compare_int_int.l0 k y0 y1 y2 y3 y4) (slices_Compare_int_int.l0 (k + 1) y0 y1 y2 y3 y4))
 | 0 => fun _ _ _ _ _ r h => by simp [slices_Compare_int_int.l0] at h
 | k + 1 => by
  have ih0 := slices_Compare_int_int.mono_l k
  ·intro y0 y1 y2 y3 y4
   unfold slices_Compare_int_int.l0
   repeat' first
   | (with_reducible exact ih0 _ _ _ _ _)
   | (with_reducible exact LeO.refl _)
   | (with_reducible exact LeO.none _)
   | (with_reducible refine LeO.ite ?_ ?_)
   | (with_reducible refine LeO.bind ?_ (fun _ => ?_))
   | exact ih0 _ _ _ _ _
   | exact LeO.none _
   | refine LeO.ite ?_ ?_
   | refine LeO.bind ?_ (fun _ => ?_)
theorem slices_Compare_int_int.mono : ∀ a0 a1 k, LeO (slices_Compare_int_int.f k a0 a1) (slices_Compare_int_int.f (k + 1) a0 a1) := by
 intro a0 a1 k
 have ih0 := slices_Compare_int_int.mono_l k
 unfold slices_Compare_int_int.f
 repeat' first
   | (with_reducible exact ih0 _ _ _ _ _)
   | (with_reducible exact LeO.refl _)
   | (with_reducible exact LeO.none _)
   | (with_reducible refine LeO.ite ?_ ?_)
   | (with_reducible refine LeO.bind ?_ (fun _ => ?_))
   | exact ih0 _ _ _ _ _
   | exact LeO.none _
   | refine LeO.ite ?_ ?_
   | refine LeO.bind ?_ (fun _ => ?_)
set_option maxHeartbeats 8000000 in
set_option maxRecDepth 100000 in
theorem slices_Compare_int_int.calls (k : Nat) (A0 : Option Addr) (c0 : Nat) (l0 : List Int) (A1 : Option Addr) (c1 : Nat) (l1 : List Int) (r : Int) (w : World) (hr0 : Kd.C (Kd.int .i64) w A0 l0.length l0) (hc0 : l0.length ≤ c0) (hr1 : Kd.C (Kd.int .i64) w A1 l1.length l1) (hc1 : l1.length ≤ c1) (h : slices_Compare_int_int.f k l0 l1 = some r) :
  Calls Try.prog 96 #[.slice A0 l0.length c0, .slice A1 l1.length c1] w fun e w' => e = .returned (.int .i64 r) ∧ Drawn0 w w' := by
 have HR0 := Aside0.mk hr0
 have HC0 := Aside0.mk hc0
 clear hr0 hc0
 have HR1 := Aside0.mk hr1
 have HC1 := Aside0.mk hc1
 clear hr1 hc1
 have H : (slices_Compare_int_int.l0 k l0 l1 l0 (l0.length : Int) 0) = some r := h
 clear h
 have H' := Aside0.mk H
 clear H
 go_enter Try.func96, Try.ntmps96
 go_wp2
 go_loopg [11] k (fun kq v11 w' => ∃ (x11_1 : Int), v11 = .int .i64 x11_1 ∧ Aside0 (slices_Compare_int_int.l0 kq l0 l1 l0 (l0.length : Int) x11_1 = some r) ∧ Aside0 (kq ≤ k) ∧ Drawn0 w w')
 case atStart => exact ⟨(0), (by first | rfl | (simp; done) | (simp [*]; done)), H', ⟨Nat.le_refl _⟩, by repeat (first | exact Drawn0.refl _ | apply Drawn0.step)⟩
 case round =>
  clear H'
  try clear c1
  try clear p2
  obtain ⟨x11_1, rfl, HA, HK1, ⟨m1, rfl⟩⟩ := hrel
  cases gk with
  | zero => exact absurd HA.out (by simp [slices_Compare_int_int.l0])
  | succ k1 =>
   have H := HA.out
   clear HA
   simp only [slices_Compare_int_int.l0] at H
   by_cases c3 : x11_1 < (l0.length : Int)
   ·rw [if_pos c3] at H
    have c3b0 : decide (x11_1 < (l0.length : Int)) = true := decide_eq_true c3
    clear c3
    by_cases c4 : 0 ≤ x11_1
    ·rw [if_pos c4] at H
     have c4b0 : decide (0 ≤ x11_1) = true := decide_eq_true c4
     clear c4
     by_cases c5 : x11_1 < (l0.length : Int)
     ·rw [if_pos c5] at H
      have c5b0 : decide (x11_1 < (l0.length : Int)) = true := decide_eq_true c5
      clear c5
      by_cases c6 : x11_1 ≥ (l1.length : Int)
      ·rw [if_pos c6] at H
       have c6b0 : decide ((l1.length : Int) ≤ x11_1) = true := decide_eq_true c6
       clear c6
       obtain rfl := Option.some.inj H
       have p103 : 0 ≤ (x11_1 : Int) := of_decide_eq_true (by first | (with_reducible assumption) | assumption)
       have q103 : x11_1 < (l0.length : Int) := of_decide_eq_true (by first | (with_reducible assumption) | assumption)
       obtain ⟨ad103, e103, hx103_0⟩ := Kd.at_int HR0.out x11_1 p103 q103
       cases e103
       replace p103 := eq_true p103
       replace q103 := eq_true q103
       go_wp2
       go_ret
       exact ⟨by first | rfl | (simp; done) | (simp [*]; done), by repeat (first | exact Drawn0.refl _ | apply Drawn0.step)⟩
      ·rw [if_neg c6] at H
       have c6b0 : decide ((l1.length : Int) ≤ x11_1) = false := decide_eq_false c6
       clear c6
       by_cases c7 : x11_1 < (l1.length : Int)
       ·rw [if_pos c7] at H
        have c7b0 : decide (x11_1 < (l1.length : Int)) = true := decide_eq_true c7
        clear c7
        replace H := Option.bind_eq_some_iff.mp H
        obtain ⟨t105, A80, H⟩ := H
        replace H : (if t105 = 0 then (slices_Compare_int_int.l0 k1 l0 l1 l0 (l0.length : Int) (wrap64 (x11_1 + 1))) else (some t105)) = some r := H
        have A8 := Aside0.mk A80
        clear A80
        by_cases c9 : t105 = 0
        ·rw [if_pos c9] at H
         have c9b0 : (t105 == 0) = true := beq_iff_eq.mpr c9
         have c9b1 : (t105 != 0) = false := bne_eq_false_iff_eq.mpr c9
         clear c9
         have H' := Aside0.mk H
         clear H
         have p103 : 0 ≤ (x11_1 : Int) := of_decide_eq_true (by first | (with_reducible assumption) | assumption)
         have q103 : x11_1 < (l0.length : Int) := of_decide_eq_true (by first | (with_reducible assumption) | assumption)
         obtain ⟨ad103, e103, hx103_0⟩ := Kd.at_int HR0.out x11_1 p103 q103
         cases e103
         replace p103 := eq_true p103
         replace q103 := eq_true q103
         have p104 : 0 ≤ (x11_1 : Int) := of_decide_eq_true (by first | (with_reducible assumption) | assumption)
         have q104 : x11_1 < (l1.length : Int) := of_decide_eq_true (by first | (with_reducible assumption) | assumption)
         obtain ⟨ad104, e104, hx104_0⟩ := Kd.at_int HR1.out x11_1 p104 q104
         cases e104
         replace p104 := eq_true p104
         replace q104 := eq_true q104
         go_wp2_with (first | ((with_reducible refine gate_callee (f := 115) rfl ?_); refine goesL_ (some 26) rfl rfl Try.func115 (by kernel_rfl) rfl #[.int .i64 (rd l0 x11_1), .int .i64 (rd l1 x11_1)] rfl (by (try simp only [List.map_toArray, List.map_cons, List.map_nil]); first | done | rfl | (simp only [List.length_drop, List.length_take]; rfl)) ?_; (with_reducible refine (cmp_Compare_int.calls (rd l0 x11_1) (rd l1 x11_1) t105 _ A8.out).mono ?_); rintro e w' ⟨rfl, ⟨nd, rfl⟩⟩; refine ⟨_, rfl, ?_⟩))
         go_roundg k1
         case measure => have := HK1.out; omega
         case rel => exact ⟨(wrap64 (x11_1 + 1)), (by first | rfl | (simp; done) | (simp [*]; done)), H', ⟨by have := HK1.out; omega⟩, by repeat (first | exact Drawn0.refl _ | apply Drawn0.step)⟩
        ·rw [if_neg c9] at H
         have c9b0 : (t105 == 0) = false := beq_eq_false_iff_ne.mpr c9
         have c9b1 : (t105 != 0) = true := bne_iff_ne.mpr c9
         obtain rfl := Option.some.inj H
         have p103 : 0 ≤ (x11_1 : Int) := of_decide_eq_true (by first | (with_reducible assumption) | assumption)
         have q103 : x11_1 < (l0.length : Int) := of_decide_eq_true (by first | (with_reducible assumption) | assumption)
         obtain ⟨ad103, e103, hx103_0⟩ := Kd.at_int HR0.out x11_1 p103 q103
         cases e103
         replace p103 := eq_true p103
         replace q103 := eq_true q103
         have p104 : 0 ≤ (x11_1 : Int) := of_decide_eq_true (by first | (with_reducible assumption) | assumption)
         have q104 : x11_1 < (l1.length : Int) := of_decide_eq_true (by first | (with_reducible assumption) | assumption)
         obtain ⟨ad104, e104, hx104_0⟩ := Kd.at_int HR1.out x11_1 p104 q104
         cases e104
         replace p104 := eq_true p104
         replace q104 := eq_true q104
         go_wp2_with (first | ((with_reducible refine gate_callee (f := 115) rfl ?_); refine goesL_ (some 26) rfl rfl Try.func115 (by kernel_rfl) rfl #[.int .i64 (rd l0 x11_1), .int .i64 (rd l1 x11_1)] rfl (by (try simp only [List.map_toArray, List.map_cons, List.map_nil]); first | done | rfl | (simp only [List.length_drop, List.length_take]; rfl)) ?_; (with_reducible refine (cmp_Compare_int.calls (rd l0 x11_1) (rd l1 x11_1) t105 _ A8.out).mono ?_); rintro e w' ⟨rfl, ⟨nd, rfl⟩⟩; refine ⟨_, rfl, ?_⟩))
         go_ret
         exact ⟨by first | rfl | (simp; done) | (simp [*]; done), by repeat (first | exact Drawn0.refl _ | apply Drawn0.step)⟩
       ·rw [if_neg c7] at H
        exact absurd H (by simp)
     ·rw [if_neg c5] at H
      exact absurd H (by simp)
    ·rw [if_neg c4] at H
     exact absurd H (by simp)
   ·rw [if_neg c3] at H
    have c3b0 : decide (x11_1 < (l0.length : Int)) = false := decide_eq_false c3
    clear c3
    by_cases c10 : (l0.length : Int) < (l1.length : Int)
    ·rw [if_pos c10] at H
     have c10b0 : decide ((l0.length : Int) < (l1.length : Int)) = true := decide_eq_true c10
     have c10b1 : decide (l0.length < l1.length) = true := decide_eq_true (Int.ofNat_lt.mp c10)
     clear c10
     obtain rfl := Option.some.inj H
     go_wp2
     go_ret
     exact ⟨by first | rfl | (simp; done) | (simp [*]; done), by repeat (first | exact Drawn0.refl _ | apply Drawn0.step)⟩
    ·rw [if_neg c10] at H
     have c10b0 : decide ((l0.length : Int) < (l1.length : Int)) = false := decide_eq_false c10
     have c10b1 : decide (l0.length < l1.length) = false := decide_eq_false (fun h => c10 (Int.ofNat_lt.mpr h))
     clear c10
     obtain rfl := Option.some.inj H
     go_wp2
     go_ret
     exact ⟨by first | rfl | (simp; done) | (simp [*]; done), by repeat (first | exact Drawn0.refl _ | apply Drawn0.step)⟩
end Go.Proofs.Ytlhodfjdmafapaa.QSn
end
