/- The frame of a law's row: from a walk that ends in true and turns nothing that was there, to the row; and how plain arguments are opened. No statement of the seat is proved here. -/
import Derived.Test.YtlhodfjdmafapaaRows
import Derived.WalkKit
import Derived.ProofKit
import Derived.SizedLaws
import Derived.Below
namespace Go.Proofs.Ytlhodfjdmafapaa
open Go.ChangeShapes Go.WideShapes Go.ChangeAt Go.RowKit

theorem own : ownKnob Try.prog.godebug = none := by kernel_rfl
theorem laidOut : laidOutB Try.prog = true := by kernel_rfl

section
variable {H : Type} {enc : TypeId × Value → H} {P : Program}
theorem trodAll_stays (hl : laidOutB P = true) {W W' : World} {sp' : Nat → Bool} : ∀ {ts : List TypeId} {vs : List Value} {ds : List (DataW H)} {ps : List MemPlace},
    (ts.all fun t => P.readableRec t && decide (t < P.types.size)) = true → DataW.TrodAll enc P W 0 (fun _ => true) true ts vs ds ps →
    (∀ p ∈ ps, W.sameAt W' p) → (∀ p ∈ ps, sp' p.block = true) → DataW.TrodAll enc P W' 0 sp' true ts vs ds ps
  | [], [], [], ps, _, h, _, _ => h
  | t :: ts, v :: vs, d :: ds, ps, ht, h, hs, hb => by
    obtain ⟨p, q, h1, h2, rfl⟩ := h
    simp only [List.all_cons, Bool.and_eq_true, decide_eq_true_eq] at ht
    exact ⟨p, q, WideElems.Trod_stays hl ht.1.1 ht.1.2 h1 (fun x hx => hs x (List.mem_append_left _ hx)) (fun x hx => hb x (List.mem_append_left _ hx)),
      trodAll_stays hl ht.2 h2 (fun x hx => hs x (List.mem_append_right _ hx)) (fun x hx => hb x (List.mem_append_right _ hx)), rfl⟩
  | [], [], _ :: _, _, _, h, _, _ => h.elim
  | [], _ :: _, _, _, _, h, _, _ => by cases h
  | _ :: _, [], _, _, _, h, _, _ => by cases h
  | _ :: _, _ :: _, [], _, _, h, _, _ => by cases h
end

theorem trodAll_len {H : Type} {enc : TypeId × Value → H} {P : Program} {w : World} {base : Nat} {sp : Nat → Bool} {held : Bool} : ∀ {ts : List TypeId} {vs : List Value} {ds : List (DataW H)} {ps : List MemPlace},
    DataW.TrodAll enc P w base sp held ts vs ds ps → vs.length = ts.length ∧ ds.length = ts.length
  | [], [], [], _, _ => ⟨rfl, rfl⟩
  | t :: ts, v :: vs, d :: ds, _, h => by
    obtain ⟨p, q, _, h2, _⟩ := h
    have := trodAll_len h2
    simp [this.1, this.2]
  | [], [], _ :: _, _, h => h.elim
  | [], _ :: _, _, _, h => by cases h
  | _ :: _, [], _, _, h => by cases h
  | _ :: _, _ :: _, [], _, h => by cases h

theorem law_lifted {C : Checked} {os : Os} (started : os.Started) (hown : ownKnob C.prog.godebug = none) (hlaid : laidOutB C.prog = true) {H : Type} {enc : TypeId × Value → H} {f : FuncId} {fn : Func} {s : ChangeSpec} {conds : List PathCond} {apart : Bool}
    (noInit : C.prog.inits.idxOf? f = none) (hfn : C.prog.funcs[f]? = some fn) (hsv : s.vars = [])
    (hsp : ∀ ds : List (DataW H), ds.length = fn.params.size → (s.fn H ds).results = [.lit (.bool true)] ∧ (s.fn H ds).args = ds ∧ (s.fn H ds).vars = [])
    (hpar : (fn.params.toList.all fun t => C.prog.readableRec t && decide (t < C.prog.types.size)) = true) {tb : TypeId} (hrt : fn.resultTypes = #[tb]) (htb : C.prog.underlying tb = some .bool)
    (witness : ∃ (w : World) (tape : Tape) (i : Input), w.os = os ∧ (w.forCall tape i).Shaped C.prog ∧ i.vars = [] ∧ Input.okWide C.prog (w.forCall tape i) .any w.heap.size f i ∧
      s.pre6 enc C.prog fn conds apart (w.forCall tape i).memory i.args ∧ Assume.holds {} C.prog (lone (Frame.enter C.prog f i.args .normal) [] (w.forCall tape i)))
    (walk : ∀ (W : World) (base : Nat) (args : Array Value) (ds : List (DataW H)) (p : List MemPlace), args.size = fn.params.size →
      (∀ (j : Nat) t v, fn.params[j]? = some t → args[j]? = some v → Value.okWide C.prog W .any base t v) → DataW.TrodAll enc C.prog W 0 (fun _ => true) true fn.params.toList args.toList ds p →
      (∀ x ∈ p, x.block < W.heap.size) →
      (DataW.weightsEach C.prog fn.params.toList ds).all (· ≤ reachBytes) = true → Calls C.prog f args W fun e W' => e = .returned (.bool true) ∧ Below W.heap.size W W') :
    ReturnsInHanded {} C os f .any (s.pre6 enc C.prog fn conds apart) (s.post enc C.prog fn apart true false false) := by
  refine returnsInHanded_of_change_sized (C := C) hown started noInit hfn witness ?_
  intro W base args ds gs before hval hW _ hsz _
  have hW' := hW
  obtain ⟨p, q, hA, hV, rfl, hfz, hnd⟩ := hW
  rw [hsv] at hV
  obtain ⟨rfl, rfl⟩ := trodVars_none hV
  have hlen := trodAll_len hA
  have hlt : ∀ x ∈ p, x.block < W.heap.size := fun x hx => hW'.lt x (List.mem_append_left _ hx)
  have hsz' : (DataW.weightsEach C.prog fn.params.toList ds).all (· ≤ reachBytes) = true := by
    have e : s.plain.varTypes C.prog = [] := by simp [ChangeSpec.plain, hsv, DataSpec.varTypes]
    rw [e, List.append_nil, List.append_nil] at hsz
    exact hsz
  refine (walk W base args ds p (by simpa using hlen.1) hval hA hlt hsz').mono fun e W' ⟨he, bel⟩ => ?_
  subst he
  obtain ⟨e1, e2, e3⟩ := hsp ds (by simpa using hlen.2)
  refine ⟨_, rfl, ds, [], _, [], p, [], hW', ?_, ?_, ?_, bel.frame _, fun h => by cases h⟩
  · rw [List.append_nil, e1, hrt]; exact trodAll_mk1 (shut_bool htb _)
  · rw [List.append_nil, e2]; exact trodAll_stays hlaid hpar hA (fun x hx => bel.same (hlt x hx)) (fun x hx => by simpa using hlt x hx)
  · rw [List.append_nil, e3, hsv]; rfl

theorem cell_int {P : Program} {W : World} {r : Reach} {base : Nat} {e : TypeId} {v : Value} (he : P.underlying e = some (.int .i64)) (h : Cell.okWide P W r base e v) :
    ∃ n : Int, v = .int .i64 n ∧ -9223372036854775808 ≤ n ∧ n ≤ 9223372036854775807 := by
  cases v <;> simp [Cell.okWide, Cell.ok, he, IntKind.has, IntKind.min, IntKind.max, IntKind.signed, IntKind.bits] at h
  obtain ⟨rfl, h1, h2⟩ := h
  exact ⟨_, rfl, h1, h2⟩

/-- an int among the arguments -/
theorem open_i64 {P : Program} {W : World} {r : Reach} {base : Nat} {e : TypeId} {v : Value} (he : P.underlying e = some (.int .i64)) (h : Value.okWide P W r base e v) :
    ∃ n : Int, v = .int .i64 n ∧ -9223372036854775808 ≤ n ∧ n ≤ 9223372036854775807 := by
  unfold Value.okWide at h
  rw [he] at h
  exact cell_int he h

/-- an array, or a struct, of ints alone -/
theorem open_flat {P : Program} {W : World} {base : Nat} {t e : TypeId} {v : Value} (k : Nat) (he : P.underlying e = some (.int .i64)) (hty : P.cellTypes P.depth t = some (List.replicate k e)) (hc : P.cellsOf t = k)
    (hu : (∃ fs, P.underlying t = some (.struct fs)) ∨ ∃ n u, P.underlying t = some (.array n u)) (h : Value.okWide P W .any base t v) :
    ∃ g : Nat → Int, v = .agg ((List.range k).map fun i => Value.int .i64 (g i)).toArray ∧ ∀ i, -9223372036854775808 ≤ g i ∧ g i ≤ 9223372036854775807 := by
  have h2 : ∃ cs, v = .agg cs ∧ cs.size = P.cellsOf t ∧ Row.okWide P W .any base t cs := by
    unfold Value.okWide at h
    rcases hu with ⟨fs, hu⟩ | ⟨n, u, hu⟩ <;> rw [hu] at h <;> exact h
  obtain ⟨cs, rfl, hs, ts, ht, _, hcell⟩ := h2
  rw [hty] at ht
  obtain rfl : List.replicate k e = ts := Option.some.inj ht
  rw [hc] at hs
  have hx : ∀ i, i < k → ∃ n : Int, cs[i]? = some (.int .i64 n) ∧ -9223372036854775808 ≤ n ∧ n ≤ 9223372036854775807 := by
    intro i hi
    obtain ⟨u, hu, hok⟩ := hcell i cs[i] (by simp [hs, hi])
    rw [List.length_replicate, Nat.mod_eq_of_lt hi, List.getElem?_replicate, if_pos hi] at hu
    obtain rfl := Option.some.inj hu
    obtain ⟨n, hn, hb⟩ := cell_int he hok
    exact ⟨n, by rw [← hn]; simp [hs, hi], hb⟩
  refine ⟨fun i => match cs[i]? with | some (.int .i64 n) => n | _ => 0, ?_, ?_⟩
  · congr 1
    apply Array.ext'
    apply List.ext_getElem?
    intro i
    simp only [Array.getElem?_toList, List.getElem?_map]
    by_cases hi : i < k
    · obtain ⟨n, hn, _⟩ := hx i hi
      rw [hn, List.getElem?_range hi]
      simp [hn]
    · rw [Array.getElem?_eq_none (by omega), List.getElem?_eq_none (by simp; omega)]
      rfl
  · intro i
    by_cases hi : i < k
    · obtain ⟨n, hn, hb⟩ := hx i hi
      simp only [hn]; exact hb
    · have h0 : cs[i]? = none := Array.getElem?_eq_none (by omega)
      simp only [h0]
      omega

theorem args1 {a : Array Value} (h : a.size = 1) : ∃ v0, a = #[v0] := by
  obtain ⟨l⟩ := a
  match l, h with
  | [v0], _ => exact ⟨v0, rfl⟩
theorem args2 {a : Array Value} (h : a.size = 2) : ∃ v0 v1, a = #[v0, v1] := by
  obtain ⟨l⟩ := a
  match l, h with
  | [v0, v1], _ => exact ⟨v0, v1, rfl⟩
theorem args3 {a : Array Value} (h : a.size = 3) : ∃ v0 v1 v2, a = #[v0, v1, v2] := by
  obtain ⟨l⟩ := a
  match l, h with
  | [v0, v1, v2], _ => exact ⟨v0, v1, v2, rfl⟩
theorem args4 {a : Array Value} (h : a.size = 4) : ∃ v0 v1 v2 v3, a = #[v0, v1, v2, v3] := by
  obtain ⟨l⟩ := a
  match l, h with
  | [v0, v1, v2, v3], _ => exact ⟨v0, v1, v2, v3, rfl⟩
end Go.Proofs.Ytlhodfjdmafapaa
