/- Maps told as lists of pairs: words and laws at the operations. No statement of the seat is proved here. -/
import Derived.Maps.RangeWalk
import Derived.Maps.OwnSet
import Derived.Maps.OwnOps
import Derived.Below
import Derived.Test.YtlhodfjdmafapaaMExt
import Derived.Test.YtlhodfjdmafapaaRow
import Derived.WideKeyArr
import Derived.DeepKeys4
import Derived.Test.YtlhodfjdmafapaaProg
section
namespace Go.Proofs.Ytlhodfjdmafapaa
open Go.RowKit Go.Maps Go.WideShapes
set_option linter.unusedVariables false
set_option linter.unusedSimpArgs false

/-- a kind of map: how its keys and elements are told -/
structure MapKd (P : Program) (k : TypeId) (α β : Type) where
  eK : α → Value
  lK : α → Lit
  good : α → Prop
  eV : β → Value
  law : Keyed P k
  key : ∀ x, good x → keyOf P k (eK x) = some (lK x)
  inj : ∀ x y, good x → good y → lK x = lK y → x = y
  vinj : ∀ a b, eV a = eV b → a = b

/-- an element read as the value that it is -/
def rdV (v : Value) : Option (DataW Value × List MemPlace) := some (.held v, [])

open Classical in
noncomputable def getA {α β : Type} (L : List (α × β)) (x : α) : Option β := (L.find? (fun p => decide (p.1 = x))).map (·.2)
open Classical in
noncomputable def delA {α β : Type} (L : List (α × β)) (x : α) : List (α × β) := L.filter (fun p => decide (p.1 ≠ x))
noncomputable def putA {α β : Type} (L : List (α × β)) (x : α) (y : β) : List (α × β) := (x, y) :: delA L x

section pure
variable {α β : Type}
theorem getA_some {L : List (α × β)} {x : α} {y : β} (h : getA L x = some y) : (x, y) ∈ L := by
  unfold getA at h
  rw [Option.map_eq_some_iff] at h
  obtain ⟨⟨a, b⟩, h1, rfl⟩ := h
  have := List.find?_some h1
  simp only [decide_eq_true_eq] at this
  subst this
  exact List.mem_of_find?_eq_some h1
theorem getA_none {L : List (α × β)} {x : α} (h : getA L x = none) : ∀ p ∈ L, p.1 ≠ x := by
  unfold getA at h
  rw [Option.map_eq_none_iff, List.find?_eq_none] at h
  intro p hp e
  exact h p hp (by simpa using e)
theorem getA_mem {L : List (α × β)} (hn : L.Pairwise fun p q => p.1 ≠ q.1) {x : α} {y : β} (h : (x, y) ∈ L) : getA L x = some y := by
  cases e : getA L x with
  | none => exact absurd rfl (getA_none e _ h)
  | some z =>
    have hz := getA_some e
    have : ∀ {l : List (α × β)}, (l.Pairwise fun p q => p.1 ≠ q.1) → ∀ {y z : β}, (x, y) ∈ l → (x, z) ∈ l → y = z := by
      intro l
      induction l with
      | nil => intro _ y z h; cases h
      | cons a r ih =>
        intro hp y z h1 h2
        obtain ⟨p1, p2⟩ := List.pairwise_cons.1 hp
        rcases List.mem_cons.1 h1 with e1 | h1
        · rcases List.mem_cons.1 h2 with e2 | h2
          · rw [← e1] at e2; exact (Prod.mk.inj e2).2.symm
          · exact absurd (by rw [← e1]) (p1 _ h2)
        · rcases List.mem_cons.1 h2 with e2 | h2
          · exact absurd (by rw [← e2]) (p1 _ h1)
          · exact ih p2 h1 h2
    rw [this hn h hz]
theorem delA_keys {L : List (α × β)} (x : α) : ∀ p ∈ delA L x, p.1 ≠ x := fun p hp => by
  have := (List.mem_filter.1 hp).2
  simpa using this
theorem putA_nodup {L : List (α × β)} (hn : L.Pairwise fun p q => p.1 ≠ q.1) (x : α) (y : β) : (putA L x y).Pairwise fun p q => p.1 ≠ q.1 :=
  List.pairwise_cons.2 ⟨fun p hp e => delA_keys x p hp e.symm, hn.filter _⟩
open Classical in
theorem getA_put (L : List (α × β)) (x z : α) (y : β) : getA (putA L x y) z = if z = x then some y else getA L z := by
  unfold getA putA delA
  by_cases e : z = x
  · subst e; simp
  · have e' : ¬ x = z := fun h => e h.symm
    rw [List.find?_cons_of_neg (by simpa using e'), if_neg e, List.find?_filter]
    congr 2
    funext p
    by_cases h : p.1 = z
    · simp [h, e]
    · simp [h]
end pure

variable {P : Program} {k : TypeId} {α β : Type}

/-- a datum is the list of pairs, in whatever order -/
def MapKd.Rep (M : MapKd P k α β) (D : DataW Value) (L : List (α × β)) : Prop :=
  (L.Pairwise fun p q => p.1 ≠ q.1) ∧ (∀ p ∈ L, M.good p.1) ∧ ∃ es, D = .map es ∧ es.Perm (L.map fun p => (M.lK p.1, DataW.held (M.eV p.2)))

/-- block b is a map that holds the pairs L -/
def MapKd.own (M : MapKd P k α β) (w : World) (b n : Nat) (L : List (α × β)) : Prop := ∃ D, w.ownsMap P k rdV b n D ∧ M.Rep D L

section rep
variable {M : MapKd P k α β} {D : DataW Value} {L : List (α × β)}
theorem MapKd.Rep.apart (h : M.Rep D L) : ∃ es, D = .map es ∧ es.Pairwise (fun p q => p.1 ≠ q.1) ∧ es.Perm (L.map fun p => (M.lK p.1, DataW.held (M.eV p.2))) := by
  obtain ⟨h1, h2, es, rfl, h3⟩ := h
  refine ⟨es, rfl, (h3.pairwise_iff (fun {_ _} h => Ne.symm h)).2 ?_, h3⟩
  rw [List.pairwise_map]
  refine List.Pairwise.imp_of_mem ?_ h1
  intro p q hp hq hne e
  exact hne (M.inj _ _ (h2 p hp) (h2 q hq) e)
theorem MapKd.Rep.at_some (h : M.Rep D L) {x : α} {y : β} (hx : getA L x = some y) (z : DataW Value) : D.atKey (M.lK x) z = .held (M.eV y) := by
  have hm := getA_some hx
  obtain ⟨es, rfl, ha, hp⟩ := h.apart
  exact WideAt.atKey_mem z (M.law.key (M.key x (h.2.1 _ hm))) ha (hp.mem_iff.2 (List.mem_map.2 ⟨_, hm, rfl⟩))
theorem MapKd.Rep.has_some (h : M.Rep D L) {x : α} {y : β} (hx : getA L x = some y) : Maps.has D (M.lK x) = true :=
  Maps.has_true_of_atKey (fun z => h.at_some hx z)
theorem MapKd.Rep.has_none (h : M.Rep D L) {x : α} (g : M.good x) (hx : getA L x = none) : Maps.has D (M.lK x) = false := by
  obtain ⟨_, h2, es, rfl, hp⟩ := h
  cases e : Maps.has (.map es) (M.lK x)
  · rfl
  · obtain ⟨p, hpm, hs⟩ := List.any_eq_true.1 (show es.any (fun p => p.1.sameKey (M.lK x)) = true from e)
    obtain ⟨q, hq, rfl⟩ := List.mem_map.1 (hp.mem_iff.1 hpm)
    exact absurd (M.inj _ _ (h2 q hq) g (WideAt.sameKey_eq hs)) (getA_none hx q hq)
theorem MapKd.Rep.has_eq (h : M.Rep D L) {x : α} (g : M.good x) : Maps.has D (M.lK x) = (getA L x).isSome := by
  cases e : getA L x with
  | none => exact h.has_none g e
  | some y => exact h.has_some e
theorem MapKd.Rep.size (h : M.Rep D L) : Maps.size D = L.length := by
  obtain ⟨_, _, es, rfl, hp⟩ := h
  show es.length = _
  rw [hp.length_eq, List.length_map]
open Classical in
theorem filter_keys (M : MapKd P k α β) {L : List (α × β)} (h2 : ∀ p ∈ L, M.good p.1) {x : α} (g : M.good x) :
    (L.map fun p => (M.lK p.1, (DataW.held (M.eV p.2) : DataW Value))).filter (fun p => !p.1.sameKey (M.lK x)) = (delA L x).map fun p => (M.lK p.1, DataW.held (M.eV p.2)) := by
  rw [List.filter_map]
  congr 1
  refine List.filter_congr (fun p hp => ?_)
  show (!(M.lK p.1).sameKey (M.lK x)) = decide (p.1 ≠ x)
  by_cases e : p.1 = x
  · rw [e, WideAt.sameKey_self (M.law.key (M.key x g))]; simp
  · rw [sameKey_ne (fun q => e (M.inj _ _ (h2 p hp) g q))]; simp [e]
theorem MapKd.Rep.put (h : M.Rep D L) {x : α} (g : M.good x) (y : β) : M.Rep (D.put (M.lK x) (.held (M.eV y))) (putA L x y) := by
  obtain ⟨h1, h2, es, rfl, hp⟩ := h
  refine ⟨putA_nodup h1 x y, fun p hp => ?_, _, rfl, ?_⟩
  · rcases List.mem_cons.1 hp with rfl | hp
    · exact g
    · exact h2 p ((List.mem_filter.1 hp).1)
  · refine (insert_perm _ _).trans ?_
    rw [show putA L x y = (x, y) :: delA L x from rfl, List.map_cons]
    refine List.Perm.cons _ ?_
    rw [← filter_keys M h2 g]
    exact hp.filter _
end rep

section own
variable {M : MapKd P k α β} {w : World} {b n : Nat} {L : List (α × β)}
theorem MapKd.own_made (M : MapKd P k α β) (w : World) : M.own (w.alloc (.map #[] 0)) w.heap.size 0 [] :=
  ⟨.map [], World.ownsMap_made w P k rdV, List.Pairwise.nil, fun _ h => (List.not_mem_nil h).elim, [], rfl, List.Perm.refl _⟩
theorem MapKd.own_kept {w' : World} {row : Option Nat} (h : M.own w b n L) (hg : w.grownBy w' row) (hne : some b ≠ row) : M.own w' b n L := let ⟨D, h1, h2⟩ := h; ⟨D, h1.kept hg hne, h2⟩
theorem MapKd.own_alloc (h : M.own w b n L) (o : Obj) : M.own (w.alloc o) b n L := let ⟨D, h1, h2⟩ := h; ⟨D, h1.alloc o, h2⟩
theorem MapKd.own_same {w' : World} (h : M.own w b n L) (e : w'.heap[b]? = w.heap[b]?) : M.own w' b n L := by
  obtain ⟨D, ⟨es, clock, hb, r⟩, h2⟩ := h
  exact ⟨D, ⟨es, clock, e.trans hb, r⟩, h2⟩
theorem MapKd.own_lt (h : M.own w b n L) : b < w.heap.size := let ⟨_, h1, _⟩ := h; h1.lt
theorem MapKd.own_below {w' : World} (h : M.own w b n L) (hb : Below w.heap.size w w') : M.own w' b n L := MapKd.own_same h (hb.block b (MapKd.own_lt h))
theorem MapKd.own_nodup (h : M.own w b n L) : L.Pairwise fun p q => p.1 ≠ q.1 := let ⟨_, _, h2⟩ := h; h2.1
theorem MapKd.own_is (h : M.own w b n L) : ∃ es c, w.heap[b]? = some (.map es c) := by
  obtain ⟨D, ⟨es, clock, hb, _⟩, _⟩ := h
  exact ⟨es, clock, hb⟩
end own

/-- a range over a map, under way: the pairs 'done' have come -/
def MapKd.ranges (M : MapKd P k α β) (w : World) (b r n : Nat) (L done : List (α × β)) : Prop :=
  ∃ D left cnt todo, w.ranges P k rdV b r n D left cnt ∧ M.Rep D L ∧ (done ++ todo).Perm L ∧ (∀ p ∈ L, left (M.lK p.1) = true → p ∈ todo) ∧ (∀ p ∈ todo, left (M.lK p.1) = true)

section rng
variable {M : MapKd P k α β} {w : World} {b r n : Nat} {L done : List (α × β)}
theorem MapKd.ranges_kept {w' : World} {row : Option Nat} (h : M.ranges w b r n L done) (hg : w.grownBy w' row) (hb : some b ≠ row) (hr : some r ≠ row) : M.ranges w' b r n L done :=
  let ⟨D, left, cnt, todo, h1, h2⟩ := h; ⟨D, left, cnt, todo, h1.kept hg hb hr, h2⟩
theorem MapKd.ranges_same {w' : World} (h : M.ranges w b r n L done) (e : w'.heap[b]? = w.heap[b]?) (e2 : w'.heap[r]? = w.heap[r]?) : M.ranges w' b r n L done := by
  obtain ⟨D, left, cnt, todo, ⟨es, clock, since, seen, c0, hb, F, hs, hD, hr, rest⟩, h2⟩ := h
  exact ⟨D, left, cnt, todo, ⟨es, clock, since, seen, c0, e.trans hb, F, hs, hD, e2.trans hr, rest⟩, h2⟩
theorem MapKd.ranges_own (h : M.ranges w b r n L done) : M.own w b n L := let ⟨D, left, cnt, todo, h1, h2, _⟩ := h; ⟨D, h1.owns, h2⟩
theorem MapKd.ranges_lt (h : M.ranges w b r n L done) : r < w.heap.size := let ⟨_, _, _, _, h1, _⟩ := h; h1.lt
theorem MapKd.ranges_below {w' : World} (h : M.ranges w b r n L done) (hb : Below w.heap.size w w') : M.ranges w' b r n L done :=
  MapKd.ranges_same h (hb.block b (MapKd.own_lt (MapKd.ranges_own h))) (hb.block r (MapKd.ranges_lt h))
theorem MapKd.ranges_left {w' : World} (h : M.ranges w b r n L done) (e : w'.heap[b]? = w.heap[b]?) (e2 : w'.heap[r]? = w.heap[r]?) : w'.rangeLeft b r = w.rangeLeft b r := by
  unfold World.rangeLeft; rw [e, e2]
theorem MapKd.ranges_len (h : M.ranges w b r n L done) : done.length ≤ L.length := by
  obtain ⟨_, _, _, todo, _, _, h3, _⟩ := h
  have := h3.length_eq
  rw [List.length_append] at this
  omega
end rng

section ops
variable (w : World) {ops : Array Oper} {rest : List Oper} {o : Oper} {a : Act} {Q : Exit → Act → World → Prop}

/-- 'm[k] = v' -/
theorem wpList_update_om (M : MapKd P k α β) (hg : o.guard = none) (m x v : Operand) (t : TypeId) (hop : o.op = Op.mapUpdate t m x v)
    (e : TypeId) (ht : P.underlying t = some (.map k e)) (b n : Nat) (L : List (α × β))
    (hm : a.eval m = .map (some b)) (hown : M.own w b n L) (hn : n < maxLen) (key : α) (val : β) (hx : a.eval x = M.eK key) (hv : a.eval v = M.eV val) (hgd : M.good key)
    (hK : ∀ w', M.own w' b (n + 1) (putA L key val) → w.grownBy w' (some b) → w.heap.size = w'.heap.size → wpList P ops Q rest (a.put o.dst undef) w') :
    wpList P ops Q (o :: rest) a w := by
  obtain ⟨D, h1, h2⟩ := hown
  refine wpList_plain hg fun K' hK' => ?_
  obtain ⟨w', hrun, r1, r2⟩ := h1.store M.law ht hn (M.key key hgd) (show rdV (M.eV val) = some (.held (M.eV val), []) from rfl)
  unfold Oper.wp
  simp [execOp, hop, hm, hx, hv, hrun, Result.andThen]
  have hs : w.heap.size = w'.heap.size := by
    obtain ⟨_, _, es', c', _, rfl⟩ := r2
    simp [ChangeMaps.setBlock]
  exact hK' _ _ (hK w' ⟨_, r1, h2.put hgd val⟩ r2.grown hs)

/-- a pair of a map that is written out -/
theorem wpList_insert_om (M : MapKd P k α β) (hg : o.guard = none) (m x v : Operand) (t : TypeId) (hop : o.op = Op.insert t m x v)
    (e : TypeId) (ht : P.underlying t = some (.map k e)) (b n : Nat) (L : List (α × β))
    (hm : a.eval m = .map (some b)) (hown : M.own w b n L) (hn : n < maxLen) (key : α) (val : β) (hx : a.eval x = M.eK key) (hv : a.eval v = M.eV val) (hgd : M.good key)
    (hK : ∀ w', M.own w' b (n + 1) (putA L key val) → w.grownBy w' (some b) → w.heap.size = w'.heap.size → wpList P ops Q rest (a.put o.dst undef) w') :
    wpList P ops Q (o :: rest) a w := by
  obtain ⟨D, h1, h2⟩ := hown
  refine wpList_plain hg fun K' hK' => ?_
  obtain ⟨w', hrun, r1, r2⟩ := h1.store M.law ht hn (M.key key hgd) (show rdV (M.eV val) = some (.held (M.eV val), []) from rfl)
  unfold Oper.wp
  simp [execOp, hop, hm, hx, hv, hrun, Result.andThen]
  have hs : w.heap.size = w'.heap.size := by
    obtain ⟨_, _, es', c', _, rfl⟩ := r2
    simp [ChangeMaps.setBlock]
  exact hK' _ _ (hK w' ⟨_, r1, h2.put hgd val⟩ r2.grown hs)

/-- 'v, ok := m[k]' -/
theorem wpList_lookup_ok_om (M : MapKd P k α β) (hg : o.guard = none) (m x : Operand) (t : TypeId) (hop : o.op = Op.lookup t m x true)
    (e : TypeId) (ht : P.underlying t = some (.map k e)) (z : β) (hz : (zeroValue e).run P w = .ok (M.eV z) w) (b n : Nat) (L : List (α × β))
    (hm : a.eval m = .map (some b)) (hown : M.own w b n L) (key : α) (hx : a.eval x = M.eK key) (hgd : M.good key)
    (hK : wpList P ops Q rest (a.put o.dst (.tuple #[M.eV ((getA L key).getD z), .bool (getA L key).isSome])) w) :
    wpList P ops Q (o :: rest) a w := by
  obtain ⟨D, h1, h2⟩ := hown
  refine wpList_plain hg fun K' hK' => ?_
  obtain ⟨v, ps, hrun, hv⟩ := h1.look_ok M.law ht hz (show rdV (M.eV z) = some (.held (M.eV z), []) from rfl) (M.key key hgd)
  have hv' : v = M.eV ((getA L key).getD z) := by
    simp only [rdV, Option.some.injEq, Prod.mk.injEq] at hv
    cases e1 : getA L key with
    | some y => rw [h2.at_some e1] at hv; simpa using hv.1
    | none => rw [Maps.atKey_of_not_has (h2.has_none hgd e1)] at hv; simpa using hv.1
  rw [h2.has_eq hgd, hv'] at hrun
  unfold Oper.wp
  simp only [execOp, hop, hm, hx]
  simp [hrun, Result.andThen]
  exact hK' _ _ (by simpa using hK)

/-- .. where the key is not there -/
theorem wpList_lookup_ok_none (M : MapKd P k α β) (hg : o.guard = none) (m x : Operand) (t : TypeId) (hop : o.op = Op.lookup t m x true)
    (e : TypeId) (ht : P.underlying t = some (.map k e)) (z : β) (hz : (zeroValue e).run P w = .ok (M.eV z) w) (b n : Nat) (L : List (α × β))
    (hm : a.eval m = .map (some b)) (hown : M.own w b n L) (key : α) (hx : a.eval x = M.eK key) (hgd : M.good key) (hn : getA L key = none) (v : Value) (hv : M.eV z = v)
    (hK : wpList P ops Q rest (a.put o.dst (.tuple #[v, .bool false])) w) :
    wpList P ops Q (o :: rest) a w :=
  wpList_lookup_ok_om w M hg m x t hop e ht z hz b n L hm hown key hx hgd (by rw [hn]; subst hv; exact hK)
/-- .. where it is -/
theorem wpList_lookup_ok_some (M : MapKd P k α β) (hg : o.guard = none) (m x : Operand) (t : TypeId) (hop : o.op = Op.lookup t m x true)
    (e : TypeId) (ht : P.underlying t = some (.map k e)) (z : β) (hz : (zeroValue e).run P w = .ok (M.eV z) w) (b n : Nat) (L : List (α × β))
    (hm : a.eval m = .map (some b)) (hown : M.own w b n L) (key : α) (hx : a.eval x = M.eK key) (hgd : M.good key) (y : β) (hn : getA L key = some y) (v : Value) (hv : M.eV y = v)
    (hK : wpList P ops Q rest (a.put o.dst (.tuple #[v, .bool true])) w) :
    wpList P ops Q (o :: rest) a w :=
  wpList_lookup_ok_om w M hg m x t hop e ht z hz b n L hm hown key hx hgd (by rw [hn]; subst hv; exact hK)

/-- 'range m' -/
theorem wpList_range_om (M : MapKd P k α β) (hg : o.guard = none) (m : Operand) (t : TypeId) (hop : o.op = Op.range t m) (e : TypeId) (ht : P.underlying t = some (.map k e)) (b n : Nat) (L : List (α × β))
    (hm : a.eval m = .map (some b)) (hown : M.own w b n L)
    (hK : ∀ w', M.ranges w' b w.heap.size n L [] → w.grownBy w' none → w'.heap.size = w.heap.size + 1 → wpList P ops Q rest (a.put o.dst (.pointer (some ⟨w.heap.size, 0, none⟩))) w') :
    wpList P ops Q (o :: rest) a w := by
  obtain ⟨D, h1, h2⟩ := hown
  refine wpList_range_own w hg m t hop k e M.law ht rdV b n D hm h1 (fun w' hr hgr hs => ?_)
  exact hK w' ⟨D, _, _, L, hr, h2, by simp, fun p hp _ => hp, fun p hp => h2.has_some (getA_mem h2.1 hp)⟩ hgr hs

/-- the step of a range -/
theorem wpList_next_om (M : MapKd P k α β) (hg : o.guard = none) (it : Operand) (hop : o.op = Op.next it false) (b r n : Nat) (L done : List (α × β))
    (hit : a.eval it = .pointer (some ⟨r, 0, none⟩)) (h : M.ranges w b r n L done)
    (hDone : done.Perm L → wpList P ops Q rest (a.put o.dst (.tuple #[.bool false])) w)
    (hMore : ∀ (x : α) (y : β) (w' : World), (x, y) ∈ L → (x, y) ∉ done → M.ranges w' b r n L (done ++ [(x, y)]) → w'.rangeLeft b r < w.rangeLeft b r → w.grownBy w' (some r) → w'.heap.size = w.heap.size →
      (Instr.entry (.pointer (some ⟨r, 0, none⟩))).run P w' = .ok (.tuple #[M.eK x, M.eV y]) w' → wpList P ops Q rest (a.put o.dst (.tuple #[.bool true, M.eK x, M.eV y])) w') :
    wpList P ops Q (o :: rest) a w := by
  obtain ⟨D, left, cnt, todo, h1, h2, h3, h4, h5⟩ := h
  refine wpList_plain hg fun K' hK' => ?_
  unfold Oper.wp
  rcases h1.next M.law o.type with ⟨h0, hl, hrun⟩ | ⟨key, v, kl, y, w', cnt', hkey, hlk, hv, hat, hrun, hrg, hlt, hgr, hsz, hen⟩
  · simp [execOp, hop, hit, hrun, Result.andThen]
    refine hK' _ _ (hDone ?_)
    cases todo with
    | nil => simpa using h3
    | cons q t => have := h5 q (by simp); rw [hl] at this; cases this
  · have hhas := Maps.has_true_of_atKey hat
    have ⟨hn, hgood, es, hes, hpm⟩ := h2
    subst hes
    obtain ⟨p, hp, hs⟩ := List.any_eq_true.1 (show es.any (fun p => p.1.sameKey kl) = true from hhas)
    obtain ⟨⟨x, c⟩, hq, rfl⟩ := List.mem_map.1 (hpm.mem_iff.1 hp)
    obtain rfl := WideAt.sameKey_eq hs
    obtain rfl : key = M.eK x := M.law.inj hkey (M.key x (hgood _ hq))
    have hc : y.1 = .held (M.eV c) := (hat .nil).symm.trans (h2.at_some (getA_mem hn hq) .nil)
    obtain rfl : v = M.eV c := by
      simp only [rdV, Option.some.injEq] at hv
      rw [← hv] at hc
      simpa using hc
    have htodo : (x, c) ∈ todo := h4 _ hq hlk
    have hnd : (done ++ todo).Pairwise fun p q => p.1 ≠ q.1 := (h3.pairwise_iff (fun {_ _} h => Ne.symm h)).2 hn
    obtain ⟨t1, t2, rfl⟩ := List.append_of_mem htodo
    have hperm : (done ++ (t1 ++ (x, c) :: t2)).Perm ((done ++ [(x, c)]) ++ (t1 ++ t2)) := by
      rw [List.append_assoc]
      refine List.Perm.append_left _ ?_
      exact List.perm_middle
    have hnd2 := (hperm.pairwise_iff (fun {_ _} h => Ne.symm h)).1 hnd
    rw [List.pairwise_append] at hnd2
    obtain ⟨n1, n2, n3⟩ := hnd2
    rw [List.pairwise_append] at n1
    simp [execOp, hop, hit, hrun, Result.andThen]
    refine hK' _ _ (hMore x c w' hq (fun hd => ?_) ⟨_, _, cnt', t1 ++ t2, hrg, h2, hperm.symm.trans h3, fun p hp hl => ?_, fun p hp => ?_⟩ ?_ hgr hsz hen)
    · exact n1.2.2 _ hd _ (by simp) rfl
    · simp only [Bool.and_eq_true, Bool.not_eq_true'] at hl
      have := h4 p hp hl.1
      rcases List.mem_append.1 this with h | h
      · exact List.mem_append_left _ h
      · rcases List.mem_cons.1 h with rfl | h
        · rw [WideAt.sameKey_self (M.law.key (M.key x (hgood _ hq)))] at hl; simp at hl
        · exact List.mem_append_right _ h
    · have hpl : p ∈ L := h3.mem_iff.1 (List.mem_append_right _ (by
        rcases List.mem_append.1 hp with h | h
        · exact List.mem_append_left _ h
        · exact List.mem_append_right _ (List.mem_cons_of_mem _ h)))
      have hl := h5 p (by
        rcases List.mem_append.1 hp with h | h
        · exact List.mem_append_left _ h
        · exact List.mem_append_right _ (List.mem_cons_of_mem _ h))
      simp only [Bool.and_eq_true, Bool.not_eq_true']
      refine ⟨hl, sameKey_ne (fun e => ?_)⟩
      exact n3 (x, c) (by simp) p hp (M.inj _ _ (hgood _ hq) (hgood _ hpl) e.symm)
    · rw [hrg.left_eq, h1.left_eq]; exact hlt
end ops
end Go.Proofs.Ytlhodfjdmafapaa
end
section
namespace Go.Proofs.Ytlhodfjdmafapaa
open Go.WideMaps (ArrKey)
open Go.RowKit Go.Maps
set_option linter.unusedVariables false
set_option linter.unusedSimpArgs false
abbrev Sd : Type := Int × Int × Int × Int
def fn4 (x : Sd) : Nat → Int := v4 x.1 x.2.1 x.2.2.1 x.2.2.2
def tup4 (g : Nat → Int) : Sd := (g 0, g 1, g 2, g 3)
def good4 (s : Sd) : Prop := (0 ≤ s.1 ∧ s.1 ≤ 30) ∧ (0 ≤ s.2.1 ∧ s.2.1 ≤ 30) ∧ (0 ≤ s.2.2.1 ∧ s.2.2.1 ≤ 30) ∧ (0 ≤ s.2.2.2 ∧ s.2.2.2 ≤ 30)
theorem keyLits4 {P : Program} {k e : TypeId} {q : IntKind} (A : ArrKey P k e 4) (he : P.underlying e = some (.int q)) (m : Nat) {a b c d : Int} (wa : (Lit.int q a).wf = true) (wb : (Lit.int q b).wf = true) (wc : (Lit.int q c).wf = true) (wd : (Lit.int q d).wf = true) :
    P.keyLits (m + 2) k [.int q a, .int q b, .int q c, .int q d] = some [.int q a, .int q b, .int q c, .int q d] := by
  unfold Program.keyLits
  simp only [A.hu]
  rw [if_pos (by rw [A.size]; rfl), show List.range 4 = [0, 1, 2, 3] from rfl, List.mapM_cons, List.mapM_cons, List.mapM_cons, List.mapM_cons, List.mapM_nil]
  simp [A.one, Program.keyLits, he, wa, wb, wc, wd]
theorem arr4 : ArrKey Try.prog 22 3 4 := ⟨Try.underlying22, by kernel_rfl, by kernel_rfl, by kernel_rfl⟩
theorem size4 : ∃ m, (Try.prog).types.size + 1 = m + 3 := ⟨(Try.prog).types.size - 2, by kernel_rfl⟩
def lits4 (s : Sd) : List Lit := [.int .i64 s.1, .int .i64 s.2.1, .int .i64 s.2.2.1, .int .i64 s.2.2.2]
theorem wf30 {a : Int} (h : 0 ≤ a ∧ a ≤ 30) : (Lit.int .i64 a).wf = true := WalkArith.wf_i64 (by omega)
theorem lawSp : Keyed Try.prog 125 := Keyed.of_law (deep_law_laid laidOut (m := 3) (by decide) (of_decide_eq_true (by kernel_rfl)) (by kernel_rfl) (by kernel_rfl))
def ASp (x : Sd × Int) : Value := .agg #[.int .i64 x.1.1, .int .i64 x.1.2.1, .int .i64 x.1.2.2.1, .int .i64 x.1.2.2.2, .int .i64 x.2]
def goodSp (x : Sd × Int) : Prop := good4 x.1 ∧ 0 ≤ x.2 ∧ x.2 ≤ 1000000
theorem cells4 : Program.cellsOf Try.prog 22 = 4 := arr4.size
theorem cells1 : Program.cellsOf Try.prog 3 = 1 := arr4.one
theorem cells5 : Program.cellsOf Try.prog 125 = 5 := by kernel_rfl
theorem keyOfSp {x : Sd × Int} (h : goodSp x) : keyOf Try.prog 125 (ASp x) = some (.string (keyBytes (lits4 x.1 ++ [.int .i64 x.2]))) := by
  obtain ⟨m, hm⟩ := size4
  have hk := keyLits4 arr4 Try.underlying3 m (wf30 h.1.1) (wf30 h.1.2.1) (wf30 h.1.2.2.1) (wf30 h.1.2.2.2)
  have ht : Program.keyLits Try.prog (m + 2) 3 [.int .i64 x.2] = some [.int .i64 x.2] := by
    unfold Program.keyLits
    simp only [Try.underlying3]
    rw [if_pos ⟨trivial, WalkArith.wf_i64 (by have := h.2; omega)⟩]
  unfold keyOf
  simp only [Try.underlying125]
  rw [if_pos (by rw [show Program.keyType Try.prog 125 = true by kernel_rfl]; simp [ASp, Value.formed, Try.underlying125, cells5]), hm]
  show Option.map _ (Program.keyLits _ (m + 1 + 1 + 1) _ [.int .i64 x.1.1, .int .i64 x.1.2.1, .int .i64 x.1.2.2.1, .int .i64 x.1.2.2.2, .int .i64 x.2]) = _
  unfold Program.keyLits
  simp only [Try.underlying125]
  rw [if_pos ⟨by rw [cells5]; rfl, by kernel_rfl⟩]
  simp only [List.mapM_cons, List.mapM_nil, cells4, cells1, List.drop_zero, List.take, List.drop, Nat.zero_mul]
  rw [show m + 1 + 1 = m + 2 from rfl, hk, ht]
  rfl
/-- maps keyed by spots -/
def mkSp {β : Type} (eV : β → Value) (vinj : ∀ a b, eV a = eV b → a = b) : MapKd Try.prog 125 (Sd × Int) β where
  eK := ASp
  lK := fun x => .string (keyBytes (lits4 x.1 ++ [.int .i64 x.2]))
  good := goodSp
  eV := eV
  law := lawSp
  key := fun _ h => keyOfSp h
  inj := fun x y hx hy e => by
    have := lawSp.inj (keyOfSp hx) (e ▸ keyOfSp hy)
    obtain ⟨⟨x0, x1, x2, x3⟩, x4⟩ := x
    obtain ⟨⟨y0, y1, y2, y3⟩, y4⟩ := y
    simpa [ASp, and_assoc] using this
  vinj := vinj
def AWk (x : Int × Int) : Value := .agg #[.int .i64 x.1, .int .i64 x.2]
def MW : MapKd Try.prog 125 (Sd × Int) (Int × Int) := mkSp AWk (fun a b e => by
  obtain ⟨a0, a1⟩ := a
  obtain ⟨b0, b1⟩ := b
  simpa [AWk] using e)
end Go.Proofs.Ytlhodfjdmafapaa
end
section
namespace Go.Proofs.Ytlhodfjdmafapaa
open Go.RowKit
set_option linter.unusedVariables false
set_option linter.unusedSimpArgs false
abbrev Spot : Type := Sd × Int
abbrev Ent : Type := Spot × (Int × Int)
def setsL (k : Nat → Int) : List Int := ((List.range 16).map fun (i : Nat) => (i : Int)).filter (isSetB k)
theorem setsL_mem {k : Nat → Int} {x : Int} (h : x ∈ setsL k) : 0 ≤ x ∧ x ≤ 15 ∧ isSetB k x = true := by
  obtain ⟨h1, h2⟩ := List.mem_filter.1 h
  obtain ⟨i, hi, rfl⟩ := List.mem_map.1 h1
  have := List.mem_range.1 hi
  exact ⟨by omega, by omega, h2⟩
theorem setsL_len (k : Nat → Int) : (setsL k).length ≤ 16 := by
  unfold setsL
  exact Nat.le_trans (List.length_filter_le _ _) (by simp)
/-- how many glasses a set has -/
def ones (x : Int) : Int := x % 2 + x / 2 % 2 + x / 4 % 2 + x / 8 % 2
theorem ones_b (x : Int) : 0 ≤ ones x ∧ ones x ≤ 4 := by unfold ones; omega
/-- one more set behind a spot -/
def goTo (k : Nat → Int) (most : Int) (x : Spot) (set : Int) : Option Spot :=
  if stepD k (fn4 x.1) set = 0 ∨ most < x.2 + stepD k (fn4 x.1) set then none else some (tup4 (stepS k (fn4 x.1) set), x.2 + stepD k (fn4 x.1) set)
def con1 (k : Nat → Int) (most : Int) (e : Ent) (set : Int) : List Ent :=
  match goTo k most e.1 set with
  | none => []
  | some y => [(y, (e.2.1, e.2.2 + ones set))]
def con (k : Nat → Int) (most : Int) (e : Ent) : List Ent := (setsL k).flatMap (con1 k most e)
def mgP (a b : Int × Int) : Int × Int := (wrap64 (a.1 + b.1), min a.2 b.2)
def mgO (o : Option (Int × Int)) (b : Int × Int) : Option (Int × Int) := some (match o with | none => b | some a => mgP a b)
def stepV (x : Spot) (o : Option (Int × Int)) (p : Ent) : Option (Int × Int) := if p.1 = x then mgO o p.2 else o
def valP (C : List Ent) (x : Spot) : Option (Int × Int) := C.foldl (stepV x) none
theorem wrap64_comm (a b c : Int) : wrap64 (wrap64 (a + b) + c) = wrap64 (wrap64 (a + c) + b) := by unfold wrap64; omega
theorem mgO_swap (o : Option (Int × Int)) (b c : Int × Int) : mgO (mgO o b) c = mgO (mgO o c) b := by
  cases o with
  | none => simp only [mgO, mgP]; rw [Int.add_comm c.1 b.1, Int.min_comm c.2 b.2]
  | some a =>
    simp only [mgO, mgP]
    rw [wrap64_comm a.1 b.1 c.1, show min (min a.2 b.2) c.2 = min (min a.2 c.2) b.2 by omega]
theorem stepV_swap (x : Spot) (o : Option (Int × Int)) (p q : Ent) : stepV x (stepV x o p) q = stepV x (stepV x o q) p := by
  unfold stepV
  by_cases hp : p.1 = x <;> by_cases hq : q.1 = x <;> simp only [hp, hq, if_true, if_false]
  exact mgO_swap o p.2 q.2
theorem foldl_perm {α β : Type} {f : β → α → β} (hf : ∀ b p q, f (f b p) q = f (f b q) p) : ∀ {l l' : List α}, l.Perm l' → ∀ b, l.foldl f b = l'.foldl f b := by
  intro l l' h
  induction h with
  | nil => intro b; rfl
  | cons a _ ih => intro b; exact ih _
  | swap a c l => intro b; simp only [List.foldl_cons]; rw [hf]
  | trans _ _ ih1 ih2 => intro b; exact (ih1 b).trans (ih2 b)
theorem valP_perm {C C' : List Ent} (h : C.Perm C') (x : Spot) : valP C x = valP C' x := foldl_perm (stepV_swap x) h none
theorem valP_snoc (C : List Ent) (p : Ent) (x : Spot) : valP (C ++ [p]) x = stepV x (valP C x) p := by simp [valP]
/-- put a pair to the others: in its place, or last -/
def insP : List Ent → Ent → List Ent
  | [], p => [p]
  | q :: r, p => if q.1 = p.1 then (q.1, mgP q.2 p.2) :: r else q :: insP r p
abbrev Nd {α β : Type} (L : List (α × β)) : Prop := L.Pairwise fun p q => p.1 ≠ q.1
theorem insP_keys {r : List Ent} {p q : Ent} (h : q ∈ insP r p) : q.1 = p.1 ∨ ∃ q' ∈ r, q'.1 = q.1 := by
  induction r with
  | nil => simp only [insP, List.mem_singleton] at h; exact .inl (by rw [h])
  | cons a r ih =>
    unfold insP at h
    split at h
    · rename_i e
      rcases List.mem_cons.1 h with rfl | h
      · exact .inl e
      · exact .inr ⟨q, List.mem_cons_of_mem _ h, rfl⟩
    · rcases List.mem_cons.1 h with rfl | h
      · exact .inr ⟨_, List.mem_cons_self, rfl⟩
      · rcases ih h with e | ⟨q', h1, h2⟩
        · exact .inl e
        · exact .inr ⟨q', List.mem_cons_of_mem _ h1, h2⟩
theorem insP_nd {r : List Ent} (h : Nd r) (p : Ent) : Nd (insP r p) := by
  induction r with
  | nil => exact List.pairwise_singleton _ _
  | cons a r ih =>
    obtain ⟨h1, h2⟩ := List.pairwise_cons.1 h
    unfold insP
    split
    · exact List.pairwise_cons.2 ⟨h1, h2⟩
    · rename_i e
      refine List.pairwise_cons.2 ⟨fun q hq => ?_, ih h2⟩
      rcases insP_keys hq with e' | ⟨q', m, e'⟩
      · rw [e']; exact e
      · rw [← e']; exact h1 q' m
open Classical in
theorem getA_cons {α β : Type} (a : α × β) (r : List (α × β)) (x : α) : getA (a :: r) x = if a.1 = x then some a.2 else getA r x := by
  unfold getA
  by_cases e : a.1 = x
  · rw [List.find?_cons_of_pos (by simpa using e), if_pos e]; rfl
  · rw [List.find?_cons_of_neg (by simpa using e), if_neg e]
theorem getA_nil {α β : Type} (x : α) : getA ([] : List (α × β)) x = none := rfl
theorem insP_get (r : List Ent) (p : Ent) (x : Spot) : getA (insP r p) x = stepV x (getA r x) p := by
  induction r with
  | nil =>
    unfold insP
    rw [getA_cons, getA_nil, stepV]
    by_cases e : p.1 = x
    · rw [if_pos e, if_pos e]; rfl
    · rw [if_neg e, if_neg e]
  | cons a r ih =>
    unfold insP
    by_cases e : a.1 = p.1
    · rw [if_pos e, getA_cons, getA_cons, stepV]
      by_cases e2 : a.1 = x
      · rw [if_pos e2, if_pos (by rw [← e]; exact e2), if_pos e2]; rfl
      · rw [if_neg e2, if_neg (by rw [← e]; exact e2), if_neg e2]
    · rw [if_neg e, getA_cons, ih, getA_cons]
      by_cases e2 : a.1 = x
      · rw [if_pos e2, if_pos e2, stepV, if_neg (fun q => e (e2.trans q.symm))]
      · rw [if_neg e2, if_neg e2]
theorem foldIns_get (C : List Ent) : ∀ (r : List Ent) (x : Spot), getA (C.foldl insP r) x = C.foldl (stepV x) (getA r x) := by
  induction C with
  | nil => intro r x; rfl
  | cons p C ih => intro r x; simp only [List.foldl_cons]; rw [ih, insP_get]
theorem foldIns_nd (C : List Ent) : ∀ {r : List Ent}, Nd r → Nd (C.foldl insP r) := by
  induction C with
  | nil => intro r h; exact h
  | cons p C ih => intro r h; exact ih (insP_nd h p)
def nextP (k : Nat → Int) (most : Int) (L : List Ent) : List Ent := (L.flatMap (con k most)).foldl insP []
theorem nextP_nd (k : Nat → Int) (most : Int) (L : List Ent) : Nd (nextP k most L) := foldIns_nd _ List.Pairwise.nil
theorem nextP_get (k : Nat → Int) (most : Int) (L : List Ent) (x : Spot) : getA (nextP k most L) x = valP (L.flatMap (con k most)) x := foldIns_get _ [] x
def levP (k : Nat → Int) (most : Int) (s : Sd) : Nat → List Ent
  | 0 => [((s, 0), (1, 0))]
  | n + 1 => nextP k most (levP k most s n)
theorem perm_of_mem {α : Type} : ∀ {l l' : List α}, l.Nodup → l'.Nodup → (∀ p, p ∈ l ↔ p ∈ l') → l.Perm l'
  | [], l', _, _, h => by
    cases l' with
    | nil => exact List.Perm.refl _
    | cons a r => exact absurd ((h a).2 List.mem_cons_self) (List.not_mem_nil)
  | a :: r, l', h1, h2, h => by
    obtain ⟨a1, a2⟩ := List.nodup_cons.1 h1
    obtain ⟨s, t, rfl⟩ := List.append_of_mem ((h a).1 List.mem_cons_self)
    have hp : (s ++ a :: t).Perm (a :: (s ++ t)) := List.perm_middle
    have h3 := hp.nodup_iff.1 h2
    obtain ⟨b1, b2⟩ := List.nodup_cons.1 h3
    refine (List.Perm.cons a (perm_of_mem a2 b2 (fun p => ⟨fun hm => ?_, fun hm => ?_⟩))).trans hp.symm
    · have := hp.mem_iff.1 ((h p).1 (List.mem_cons_of_mem _ hm))
      rcases List.mem_cons.1 this with rfl | this
      · exact absurd hm a1
      · exact this
    · have := (h p).2 (hp.mem_iff.2 (List.mem_cons_of_mem _ hm))
      rcases List.mem_cons.1 this with rfl | this
      · exact absurd hm b1
      · exact this
theorem nd_nodup {α β : Type} {L : List (α × β)} (h : Nd L) : L.Nodup := List.Pairwise.imp (fun {a b} hab e => hab (by rw [e])) h
theorem perm_of_get {α β : Type} {L L' : List (α × β)} (h : Nd L) (h' : Nd L') (e : ∀ x, getA L x = getA L' x) : L.Perm L' :=
  perm_of_mem (nd_nodup h) (nd_nodup h') (fun p => ⟨fun hm => getA_some (e p.1 ▸ getA_mem h (x := p.1) (y := p.2) hm), fun hm => getA_some ((e p.1).symm ▸ getA_mem h' (x := p.1) (y := p.2) hm)⟩)
theorem next_perm {k : Nat → Int} {most : Int} {L L' M : List Ent} (hp : L.Perm L') (hM : Nd M) (hg : ∀ x, getA M x = valP (L.flatMap (con k most)) x) : M.Perm (nextP k most L') :=
  perm_of_get hM (nextP_nd k most L') (fun x => by rw [nextP_get, hg x]; exact valP_perm (hp.flatMap_right _) x)
theorem con1_len (k : Nat → Int) (most : Int) (e : Ent) (set : Int) : (con1 k most e set).length ≤ 1 := by unfold con1; split <;> simp
theorem flat_len {α β : Type} (f : α → List β) (n : Nat) (h : ∀ x, (f x).length ≤ n) : ∀ l : List α, (l.flatMap f).length ≤ n * l.length
  | [] => by simp
  | a :: r => by
    rw [List.flatMap_cons, List.length_append, List.length_cons, Nat.mul_succ]
    have := h a
    have := flat_len f n h r
    omega
theorem con_len (k : Nat → Int) (most : Int) (e : Ent) : (con k most e).length ≤ 16 := by
  have := flat_len (con1 k most e) 1 (con1_len k most e) (setsL k)
  have := setsL_len k
  unfold con
  omega
theorem insP_len (r : List Ent) (p : Ent) : (insP r p).length ≤ r.length + 1 := by
  induction r with
  | nil => simp [insP]
  | cons a r ih =>
    unfold insP
    split
    · simp
    · simp only [List.length_cons]; omega
theorem foldIns_len (C : List Ent) : ∀ r : List Ent, (C.foldl insP r).length ≤ r.length + C.length := by
  induction C with
  | nil => intro r; simp
  | cons p C ih => intro r; simp only [List.foldl_cons, List.length_cons]; have := ih (insP r p); have := insP_len r p; omega
theorem nextP_len (k : Nat → Int) (most : Int) (L : List Ent) : (nextP k most L).length ≤ 16 * L.length := by
  have := foldIns_len (L.flatMap (con k most)) []
  have := flat_len (con k most) 16 (con_len k most) L
  unfold nextP
  simp only [List.length_nil] at *
  omega
theorem levP_len (k : Nat → Int) (most : Int) (s : Sd) : ∀ n, (levP k most s n).length ≤ 16 ^ n
  | 0 => by simp [levP]
  | n + 1 => by
    have := levP_len k most s n
    have := nextP_len k most (levP k most s n)
    rw [levP, Nat.pow_succ]
    omega
/-- where the plans lead: sands of the kit, times within bounds -/
structure InK (k : Nat → Int) (most : Int) (L : List Ent) : Prop where
  all : ∀ e ∈ L, Sand k (fn4 e.1.1) ∧ 0 ≤ e.1.2 ∧ e.1.2 ≤ most
theorem sand_tup {k g : Nat → Int} (h : Sand k g) : Sand k (fn4 (tup4 g)) :=
  ⟨fun i hi => by obtain rfl | rfl | rfl | rfl : i = 0 ∨ i = 1 ∨ i = 2 ∨ i = 3 := by omega
                  all_goals exact h.lo _ (by omega),
   fun i hi => by obtain rfl | rfl | rfl | rfl : i = 0 ∨ i = 1 ∨ i = 2 ∨ i = 3 := by omega
                  all_goals exact h.hi _ (by omega), h.top⟩
theorem con_in {k : Nat → Int} {most : Int} {L : List Ent} (h : InK k most L) : ∀ e ∈ L.flatMap (con k most), Sand k (fn4 e.1.1) ∧ 0 ≤ e.1.2 ∧ e.1.2 ≤ most := by
  intro e he
  obtain ⟨a, ha, he⟩ := List.mem_flatMap.1 he
  obtain ⟨set, hs, he⟩ := List.mem_flatMap.1 he
  obtain ⟨h1, h2, h3⟩ := h.all a ha
  unfold con1 goTo at he
  by_cases c : stepD k (fn4 a.1.1) set = 0 ∨ most < a.1.2 + stepD k (fn4 a.1.1) set
  · rw [if_pos c] at he
    exact absurd he List.not_mem_nil
  · rw [if_neg c] at he
    rw [List.mem_singleton.1 he]
    have hd := h1.stepD set
    have hst := h1.step set
    refine ⟨⟨fun i hi => ?_, fun i hi => ?_, hst.top⟩, by show 0 ≤ a.1.2 + _; omega, by show a.1.2 + _ ≤ most; omega⟩
    · obtain rfl | rfl | rfl | rfl : i = 0 ∨ i = 1 ∨ i = 2 ∨ i = 3 := by omega
      all_goals exact hst.lo _ (by omega)
    · obtain rfl | rfl | rfl | rfl : i = 0 ∨ i = 1 ∨ i = 2 ∨ i = 3 := by omega
      all_goals exact hst.hi _ (by omega)
theorem foldIns_in {k : Nat → Int} {most : Int} : ∀ (C : List Ent) {r : List Ent}, InK k most r → (∀ e ∈ C, Sand k (fn4 e.1.1) ∧ 0 ≤ e.1.2 ∧ e.1.2 ≤ most) → InK k most (C.foldl insP r)
  | [], r, h, _ => h
  | p :: C, r, h, hC => foldIns_in C ⟨fun e he => by
      rcases insP_keys he with e1 | ⟨q, m, e1⟩
      · rw [e1]; exact hC p List.mem_cons_self
      · rw [← e1]; exact h.all q m⟩ (fun e he => hC e (List.mem_cons_of_mem _ he))
theorem levP_in {k : Nat → Int} {most : Int} {s : Sd} (h : Sand k (fn4 s)) (hm : 0 ≤ most) : ∀ n, InK k most (levP k most s n)
  | 0 => ⟨fun e he => by rw [List.mem_singleton.1 he]; exact ⟨h, Int.le_refl 0, hm⟩⟩
  | n + 1 => foldIns_in _ ⟨fun e he => absurd he List.not_mem_nil⟩ (con_in (levP_in h hm n))
theorem wrap64_wrap (a : Int) : wrap64 (wrap64 a) = wrap64 a := by unfold wrap64; omega
theorem foldIns_plans : ∀ (C : List Ent) {r : List Ent}, (∀ e ∈ r, wrap64 e.2.1 = e.2.1) → (∀ e ∈ C, wrap64 e.2.1 = e.2.1) → ∀ e ∈ C.foldl insP r, wrap64 e.2.1 = e.2.1
  | [], r, h, _ => h
  | p :: C, r, h, hC => foldIns_plans C (fun e he => by
      have key : ∀ {r : List Ent}, (∀ e ∈ r, wrap64 e.2.1 = e.2.1) → ∀ e ∈ insP r p, wrap64 e.2.1 = e.2.1 := by
        intro r hr
        induction r with
        | nil => intro e he; rw [List.mem_singleton.1 he]; exact hC p List.mem_cons_self
        | cons a r ih =>
          intro e he
          unfold insP at he
          split at he
          · rcases List.mem_cons.1 he with rfl | he
            · exact wrap64_wrap _
            · exact hr e (List.mem_cons_of_mem _ he)
          · rcases List.mem_cons.1 he with rfl | he
            · exact hr _ List.mem_cons_self
            · exact ih (fun e he => hr e (List.mem_cons_of_mem _ he)) e he
      exact key h e he) (fun e he => hC e (List.mem_cons_of_mem _ he))
theorem levP_plans (k : Nat → Int) (most : Int) (s : Sd) : ∀ n, ∀ e ∈ levP k most s n, wrap64 e.2.1 = e.2.1
  | 0 => fun e he => by rw [List.mem_singleton.1 he]; show wrap64 1 = 1; unfold wrap64; omega
  | n + 1 => foldIns_plans _ (fun e he => absurd he List.not_mem_nil) (fun e he => by
      obtain ⟨a, ha, he⟩ := List.mem_flatMap.1 he
      obtain ⟨set, hs, he⟩ := List.mem_flatMap.1 he
      unfold con1 at he
      split at he
      · exact absurd he List.not_mem_nil
      · rw [List.mem_singleton.1 he]
        exact levP_plans k most s n a ha)
/-- what a map holds that holds what the contributions come to -/
theorem get_len {C M : List Ent} (hM : Nd M) (hg : ∀ x, getA M x = valP C x) : M.length ≤ C.length := by
  have hp : M.Perm (C.foldl insP []) := perm_of_get hM (foldIns_nd _ List.Pairwise.nil) (fun x => by rw [hg x]; exact (foldIns_get C [] x).symm)
  rw [hp.length_eq]
  have := foldIns_len C []
  simpa using this
theorem val_none {M : List Ent} {C : List Ent} (hg : ∀ x, getA M x = valP C x) {p : Ent} (hn : getA M p.1 = none) (x : Spot) : getA (putA M p.1 p.2) x = valP (C ++ [p]) x := by
  rw [valP_snoc, getA_put, stepV, ← hg x]
  by_cases e : p.1 = x
  · subst e; rw [if_pos rfl, if_pos rfl, hn]; rfl
  · rw [if_neg (fun q => e q.symm), if_neg e]
theorem val_some {M : List Ent} {C : List Ent} (hg : ∀ x, getA M x = valP C x) {p : Ent} {o : Int × Int} (hn : getA M p.1 = some o) (x : Spot) : getA (putA M p.1 (mgP o p.2)) x = valP (C ++ [p]) x := by
  rw [valP_snoc, getA_put, stepV, ← hg x]
  by_cases e : p.1 = x
  · subst e; rw [if_pos rfl, if_pos rfl, hn]; rfl
  · rw [if_neg (fun q => e q.symm), if_neg e]
theorem take_con (k : Nat → Int) (most : Int) (e : Ent) {j : Nat} {set : Int} (h : (setsL k)[j]? = some set) : ((setsL k).take (j + 1)).flatMap (con1 k most e) = ((setsL k).take j).flatMap (con1 k most e) ++ con1 k most e set := by
  obtain ⟨hl, rfl⟩ := List.getElem?_eq_some_iff.1 h
  rw [List.take_succ_eq_append_getElem hl, List.flatMap_append]
  simp
theorem con1_none {k : Nat → Int} {most : Int} {e : Ent} {set : Int} (h : stepD k (fn4 e.1.1) set = 0 ∨ most < e.1.2 + stepD k (fn4 e.1.1) set) : con1 k most e set = [] := by
  unfold con1 goTo; rw [if_pos h]
theorem con1_some {k : Nat → Int} {most : Int} {e : Ent} {set : Int} (h : ¬ (stepD k (fn4 e.1.1) set = 0 ∨ most < e.1.2 + stepD k (fn4 e.1.1) set)) : con1 k most e set = [((tup4 (stepS k (fn4 e.1.1) set), e.1.2 + stepD k (fn4 e.1.1) set), (e.2.1, e.2.2 + ones set))] := by
  unfold con1 goTo; rw [if_neg h]
/-- turns stay small -/
theorem foldIns_turns {b : Int} : ∀ (C : List Ent) {r : List Ent}, (∀ e ∈ r, 0 ≤ e.2.2 ∧ e.2.2 ≤ b) → (∀ e ∈ C, 0 ≤ e.2.2 ∧ e.2.2 ≤ b) → ∀ e ∈ C.foldl insP r, 0 ≤ e.2.2 ∧ e.2.2 ≤ b
  | [], r, h, _ => h
  | p :: C, r, h, hC => foldIns_turns C (fun e he => by
      have key : ∀ {r : List Ent}, (∀ e ∈ r, 0 ≤ e.2.2 ∧ e.2.2 ≤ b) → ∀ e ∈ insP r p, 0 ≤ e.2.2 ∧ e.2.2 ≤ b := by
        intro r hr
        induction r with
        | nil => intro e he; rw [List.mem_singleton.1 he]; exact hC p List.mem_cons_self
        | cons a r ih =>
          intro e he
          unfold insP at he
          have ha := hr a List.mem_cons_self
          have hp := hC p List.mem_cons_self
          split at he
          · rcases List.mem_cons.1 he with rfl | he
            · simp only [mgP]; omega
            · exact hr e (List.mem_cons_of_mem _ he)
          · rcases List.mem_cons.1 he with rfl | he
            · exact ha
            · exact ih (fun e he => hr e (List.mem_cons_of_mem _ he)) e he
      exact key h e he) (fun e he => hC e (List.mem_cons_of_mem _ he))
theorem con_turns {k : Nat → Int} {most b : Int} {L : List Ent} (h : ∀ e ∈ L, 0 ≤ e.2.2 ∧ e.2.2 ≤ b) : ∀ e ∈ L.flatMap (con k most), 0 ≤ e.2.2 ∧ e.2.2 ≤ b + 4 := by
  intro e he
  obtain ⟨a, ha, he⟩ := List.mem_flatMap.1 he
  obtain ⟨set, hs, he⟩ := List.mem_flatMap.1 he
  have h1 := h a ha
  have h2 := ones_b set
  unfold con1 at he
  split at he
  · exact absurd he List.not_mem_nil
  · rw [List.mem_singleton.1 he]
    show 0 ≤ a.2.2 + ones set ∧ a.2.2 + ones set ≤ b + 4
    omega
theorem levP_turns (k : Nat → Int) (most : Int) (s : Sd) : ∀ n, ∀ e ∈ levP k most s n, 0 ≤ e.2.2 ∧ e.2.2 ≤ 4 * (n : Int)
  | 0 => fun e he => by rw [List.mem_singleton.1 he]; simp
  | n + 1 => by
    have := foldIns_turns (b := 4 * ((n + 1 : Nat) : Int)) ((levP k most s n).flatMap (con k most)) (r := []) (fun e he => absurd he List.not_mem_nil) (fun e he => by
      have := con_turns (b := 4 * (n : Int)) (levP_turns k most s n) e he
      omega)
    exact this
end Go.Proofs.Ytlhodfjdmafapaa
end
section
namespace Go.Proofs.Ytlhodfjdmafapaa
open Go.RowKit
set_option linter.unusedVariables false
set_option linter.unusedSimpArgs false
structure Best where
  sets : Int
  turns : Int
  c : Nat → Int
def upd (c : Nat → Int) (n : Nat) (v : Int) : Nat → Int := fun j => if j = n then v else c j
def tmin (u t : Int) : Int := if u < 0 then t else if t < u then t else u
def tellStep (time : Int) (n : Nat) (B : Best) (e : Ent) : Best :=
  if e.1.2 = time then ⟨if B.sets < 0 then (n : Int) else B.sets, tmin B.turns e.2.2, upd B.c n (wrap64 (B.c n + e.2.1))⟩ else B
def tellTo (k : Nat → Int) (s : Sd) (time : Int) : Nat → Best
  | 0 => ⟨-1, -1, fun _ => 0⟩
  | n + 1 => (levP k time s n).foldl (tellStep time n) (tellTo k s time n)
theorem foldl_permQ {α β : Type} {f : β → α → β} {Q : α → Prop} (hf : ∀ b p q, Q p → Q q → f (f b p) q = f (f b q) p) {l l' : List α} (h : l.Perm l') : (∀ p ∈ l, Q p) → ∀ b, l.foldl f b = l'.foldl f b := by
  induction h with
  | nil => intro _ b; rfl
  | cons a _ ih => intro hq b; exact ih (fun p hp => hq p (List.mem_cons_of_mem _ hp)) _
  | swap a c l =>
    intro hq b
    simp only [List.foldl_cons]
    rw [hf b c a (hq c List.mem_cons_self) (hq a (List.mem_cons_of_mem _ List.mem_cons_self))]
  | trans h1 _ ih1 ih2 => intro hq b; exact (ih1 hq b).trans (ih2 (fun p hp => hq p (h1.mem_iff.2 hp)) b)
theorem tmin_swap {u a b : Int} (ha : 0 ≤ a) (hb : 0 ≤ b) : tmin (tmin u a) b = tmin (tmin u b) a := by
  unfold tmin
  split <;> split <;> split <;> (try split) <;> (try split) <;> omega
theorem upd_swap (c : Nat → Int) (n : Nat) (a b : Int) : upd (upd c n (wrap64 (c n + a))) n (wrap64 (upd c n (wrap64 (c n + a)) n + b)) = upd (upd c n (wrap64 (c n + b))) n (wrap64 (upd c n (wrap64 (c n + b)) n + a)) := by
  funext j
  unfold upd
  by_cases e : j = n
  · simp only [if_pos e, if_true]; exact wrap64_comm (c n) a b
  · simp only [if_neg e]
theorem tell_swap (time : Int) (n : Nat) (B : Best) (p q : Ent) (hp : 0 ≤ p.2.2) (hq : 0 ≤ q.2.2) : tellStep time n (tellStep time n B p) q = tellStep time n (tellStep time n B q) p := by
  unfold tellStep
  by_cases h1 : p.1.2 = time <;> by_cases h2 : q.1.2 = time <;> simp only [h1, h2, if_true, if_false]
  congr 1
  · exact tmin_swap hp hq
  · exact upd_swap B.c n p.2.1 q.2.1
theorem tell_perm {k : Nat → Int} {s : Sd} {time : Int} {n : Nat} {L : List Ent} (h : L.Perm (levP k time s n)) (B : Best) : L.foldl (tellStep time n) B = (levP k time s n).foldl (tellStep time n) B :=
  foldl_permQ (Q := fun e : Ent => 0 ≤ e.2.2) (fun b p q hp hq => tell_swap time n b p q hp hq) h (fun p hp => (levP_turns k time s n p (h.mem_iff.1 hp)).1) B
end Go.Proofs.Ytlhodfjdmafapaa
end
