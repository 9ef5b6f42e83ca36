/- Maps told as lists of pairs: words and laws at the operations. No statement of the seat is proved here. -/
import Derived.Maps.RangeWalk
import Derived.Maps.OwnSet
import Derived.Maps.OwnOps
import Derived.Below
namespace Go.Proofs.Ytlhodfjdmafapaa
open Go.RowKit Go.Maps Go.WideShapes
set_option linter.unusedVariables false
set_option linter.unusedSimpArgs false

/-- a kind of map: how its keys and elements are told -/
structure MapKd (P : Program) (k : TypeId) (α β : Type) where
  eK : α → Value
  lK : α → Lit
  good : α → Prop
  eV : β → Value
  law : Keyed P k
  key : ∀ x, good x → keyOf P k (eK x) = some (lK x)
  inj : ∀ x y, good x → good y → lK x = lK y → x = y
  vinj : ∀ a b, eV a = eV b → a = b

/-- an element read as the value that it is -/
def rdV (v : Value) : Option (DataW Value × List MemPlace) := some (.held v, [])

open Classical in
noncomputable def getA {α β : Type} (L : List (α × β)) (x : α) : Option β := (L.find? (fun p => decide (p.1 = x))).map (·.2)
open Classical in
noncomputable def delA {α β : Type} (L : List (α × β)) (x : α) : List (α × β) := L.filter (fun p => decide (p.1 ≠ x))
noncomputable def putA {α β : Type} (L : List (α × β)) (x : α) (y : β) : List (α × β) := (x, y) :: delA L x

section pure
variable {α β : Type}
theorem getA_some {L : List (α × β)} {x : α} {y : β} (h : getA L x = some y) : (x, y) ∈ L := by
  unfold getA at h
  rw [Option.map_eq_some_iff] at h
  obtain ⟨⟨a, b⟩, h1, rfl⟩ := h
  have := List.find?_some h1
  simp only [decide_eq_true_eq] at this
  subst this
  exact List.mem_of_find?_eq_some h1
theorem getA_none {L : List (α × β)} {x : α} (h : getA L x = none) : ∀ p ∈ L, p.1 ≠ x := by
  unfold getA at h
  rw [Option.map_eq_none_iff, List.find?_eq_none] at h
  intro p hp e
  exact h p hp (by simpa using e)
theorem getA_mem {L : List (α × β)} (hn : L.Pairwise fun p q => p.1 ≠ q.1) {x : α} {y : β} (h : (x, y) ∈ L) : getA L x = some y := by
  cases e : getA L x with
  | none => exact absurd rfl (getA_none e _ h)
  | some z =>
    have hz := getA_some e
    have : ∀ {l : List (α × β)}, (l.Pairwise fun p q => p.1 ≠ q.1) → ∀ {y z : β}, (x, y) ∈ l → (x, z) ∈ l → y = z := by
      intro l
      induction l with
      | nil => intro _ y z h; cases h
      | cons a r ih =>
        intro hp y z h1 h2
        obtain ⟨p1, p2⟩ := List.pairwise_cons.1 hp
        rcases List.mem_cons.1 h1 with e1 | h1
        · rcases List.mem_cons.1 h2 with e2 | h2
          · rw [← e1] at e2; exact (Prod.mk.inj e2).2.symm
          · exact absurd (by rw [← e1]) (p1 _ h2)
        · rcases List.mem_cons.1 h2 with e2 | h2
          · exact absurd (by rw [← e2]) (p1 _ h1)
          · exact ih p2 h1 h2
    rw [this hn h hz]
theorem getA_perm {L L' : List (α × β)} (hp : L.Perm L') (hn : L.Pairwise fun p q => p.1 ≠ q.1) (x : α) : getA L x = getA L' x := by
  have hn' : L'.Pairwise fun p q => p.1 ≠ q.1 := (hp.pairwise_iff (fun {_ _} h => Ne.symm h)).1 hn
  cases e : getA L x with
  | some y => exact (getA_mem hn' (hp.mem_iff.1 (getA_some e))).symm
  | none =>
    cases e' : getA L' x with
    | none => rfl
    | some y => exact absurd rfl (getA_none e _ (hp.mem_iff.2 (getA_some e')))
theorem delA_keys {L : List (α × β)} (x : α) : ∀ p ∈ delA L x, p.1 ≠ x := fun p hp => by
  have := (List.mem_filter.1 hp).2
  simpa using this
theorem putA_nodup {L : List (α × β)} (hn : L.Pairwise fun p q => p.1 ≠ q.1) (x : α) (y : β) : (putA L x y).Pairwise fun p q => p.1 ≠ q.1 :=
  List.pairwise_cons.2 ⟨fun p hp e => delA_keys x p hp e.symm, hn.filter _⟩
open Classical in
theorem getA_put (L : List (α × β)) (x z : α) (y : β) : getA (putA L x y) z = if z = x then some y else getA L z := by
  unfold getA putA delA
  by_cases e : z = x
  · subst e; simp
  · have e' : ¬ x = z := fun h => e h.symm
    rw [List.find?_cons_of_neg (by simpa using e'), if_neg e, List.find?_filter]
    congr 2
    funext p
    by_cases h : p.1 = z
    · simp [h, e]
    · simp [h]
open Classical in
theorem getA_del (L : List (α × β)) (x z : α) : getA (delA L x) z = if z = x then none else getA L z := by
  unfold getA delA
  by_cases e : z = x
  · subst e
    rw [if_pos rfl, Option.map_eq_none_iff, List.find?_eq_none]
    intro p hp
    have := (List.mem_filter.1 hp).2
    simpa using this
  · rw [if_neg e, List.find?_filter]
    congr 2
    funext p
    by_cases h : p.1 = z
    · simp [h, e]
    · simp [h]
end pure

variable {P : Program} {k : TypeId} {α β : Type}

/-- a datum is the list of pairs, in whatever order -/
def MapKd.Rep (M : MapKd P k α β) (D : DataW Value) (L : List (α × β)) : Prop :=
  (L.Pairwise fun p q => p.1 ≠ q.1) ∧ (∀ p ∈ L, M.good p.1) ∧ ∃ es, D = .map es ∧ es.Perm (L.map fun p => (M.lK p.1, DataW.held (M.eV p.2)))

/-- block b is a map that holds the pairs L -/
def MapKd.own (M : MapKd P k α β) (w : World) (b n : Nat) (L : List (α × β)) : Prop := ∃ D, w.ownsMap P k rdV b n D ∧ M.Rep D L

theorem MapKd.Rep.perm {M : MapKd P k α β} {D : DataW Value} {L L' : List (α × β)} (h : M.Rep D L) (hp : L.Perm L') : M.Rep D L' := by
  obtain ⟨h1, h2, es, rfl, h3⟩ := h
  exact ⟨(hp.pairwise_iff (fun {_ _} h => Ne.symm h)).1 h1, fun p h => h2 p (hp.mem_iff.2 h), es, rfl, h3.trans (hp.map _)⟩

section rep
variable {M : MapKd P k α β} {D : DataW Value} {L : List (α × β)}
theorem MapKd.Rep.apart (h : M.Rep D L) : ∃ es, D = .map es ∧ es.Pairwise (fun p q => p.1 ≠ q.1) ∧ es.Perm (L.map fun p => (M.lK p.1, DataW.held (M.eV p.2))) := by
  obtain ⟨h1, h2, es, rfl, h3⟩ := h
  refine ⟨es, rfl, (h3.pairwise_iff (fun {_ _} h => Ne.symm h)).2 ?_, h3⟩
  rw [List.pairwise_map]
  refine List.Pairwise.imp_of_mem ?_ h1
  intro p q hp hq hne e
  exact hne (M.inj _ _ (h2 p hp) (h2 q hq) e)
theorem MapKd.Rep.at_some (h : M.Rep D L) {x : α} {y : β} (hx : getA L x = some y) (z : DataW Value) : D.atKey (M.lK x) z = .held (M.eV y) := by
  have hm := getA_some hx
  obtain ⟨es, rfl, ha, hp⟩ := h.apart
  exact WideAt.atKey_mem z (M.law.key (M.key x (h.2.1 _ hm))) ha (hp.mem_iff.2 (List.mem_map.2 ⟨_, hm, rfl⟩))
theorem MapKd.Rep.has_some (h : M.Rep D L) {x : α} {y : β} (hx : getA L x = some y) : Maps.has D (M.lK x) = true :=
  Maps.has_true_of_atKey (fun z => h.at_some hx z)
theorem MapKd.Rep.has_none (h : M.Rep D L) {x : α} (g : M.good x) (hx : getA L x = none) : Maps.has D (M.lK x) = false := by
  obtain ⟨_, h2, es, rfl, hp⟩ := h
  cases e : Maps.has (.map es) (M.lK x)
  · rfl
  · obtain ⟨p, hpm, hs⟩ := List.any_eq_true.1 (show es.any (fun p => p.1.sameKey (M.lK x)) = true from e)
    obtain ⟨q, hq, rfl⟩ := List.mem_map.1 (hp.mem_iff.1 hpm)
    exact absurd (M.inj _ _ (h2 q hq) g (WideAt.sameKey_eq hs)) (getA_none hx q hq)
theorem MapKd.Rep.has_eq (h : M.Rep D L) {x : α} (g : M.good x) : Maps.has D (M.lK x) = (getA L x).isSome := by
  cases e : getA L x with
  | none => exact h.has_none g e
  | some y => exact h.has_some e
theorem MapKd.Rep.size (h : M.Rep D L) : Maps.size D = L.length := by
  obtain ⟨_, _, es, rfl, hp⟩ := h
  show es.length = _
  rw [hp.length_eq, List.length_map]
open Classical in
theorem filter_keys (M : MapKd P k α β) {L : List (α × β)} (h2 : ∀ p ∈ L, M.good p.1) {x : α} (g : M.good x) :
    (L.map fun p => (M.lK p.1, (DataW.held (M.eV p.2) : DataW Value))).filter (fun p => !p.1.sameKey (M.lK x)) = (delA L x).map fun p => (M.lK p.1, DataW.held (M.eV p.2)) := by
  rw [List.filter_map]
  congr 1
  refine List.filter_congr (fun p hp => ?_)
  show (!(M.lK p.1).sameKey (M.lK x)) = decide (p.1 ≠ x)
  by_cases e : p.1 = x
  · rw [e, WideAt.sameKey_self (M.law.key (M.key x g))]; simp
  · rw [sameKey_ne (fun q => e (M.inj _ _ (h2 p hp) g q))]; simp [e]
theorem MapKd.Rep.put (h : M.Rep D L) {x : α} (g : M.good x) (y : β) : M.Rep (D.put (M.lK x) (.held (M.eV y))) (putA L x y) := by
  obtain ⟨h1, h2, es, rfl, hp⟩ := h
  refine ⟨putA_nodup h1 x y, fun p hp => ?_, _, rfl, ?_⟩
  · rcases List.mem_cons.1 hp with rfl | hp
    · exact g
    · exact h2 p ((List.mem_filter.1 hp).1)
  · refine (insert_perm _ _).trans ?_
    rw [show putA L x y = (x, y) :: delA L x from rfl, List.map_cons]
    refine List.Perm.cons _ ?_
    rw [← filter_keys M h2 g]
    exact hp.filter _
theorem MapKd.Rep.del (h : M.Rep D L) {x : α} (g : M.good x) : M.Rep (D.del (M.lK x)) (delA L x) := by
  obtain ⟨h1, h2, es, rfl, hp⟩ := h
  refine ⟨h1.filter _, fun p hp => h2 p ((List.mem_filter.1 hp).1), _, rfl, ?_⟩
  rw [← filter_keys M h2 g]
  exact hp.filter _
end rep

section own
variable {M : MapKd P k α β} {w : World} {b n : Nat} {L : List (α × β)}
theorem MapKd.own_made (M : MapKd P k α β) (w : World) : M.own (w.alloc (.map #[] 0)) w.heap.size 0 [] :=
  ⟨.map [], World.ownsMap_made w P k rdV, List.Pairwise.nil, fun _ h => (List.not_mem_nil h).elim, [], rfl, List.Perm.refl _⟩
theorem MapKd.own_kept {w' : World} {row : Option Nat} (h : M.own w b n L) (hg : w.grownBy w' row) (hne : some b ≠ row) : M.own w' b n L := let ⟨D, h1, h2⟩ := h; ⟨D, h1.kept hg hne, h2⟩
theorem MapKd.own_alloc (h : M.own w b n L) (o : Obj) : M.own (w.alloc o) b n L := let ⟨D, h1, h2⟩ := h; ⟨D, h1.alloc o, h2⟩
theorem MapKd.own_same {w' : World} (h : M.own w b n L) (e : w'.heap[b]? = w.heap[b]?) : M.own w' b n L := by
  obtain ⟨D, ⟨es, clock, hb, r⟩, h2⟩ := h
  exact ⟨D, ⟨es, clock, e.trans hb, r⟩, h2⟩
theorem MapKd.own_lt (h : M.own w b n L) : b < w.heap.size := let ⟨_, h1, _⟩ := h; h1.lt
theorem MapKd.own_below {w' : World} (h : M.own w b n L) (hb : Below w.heap.size w w') : M.own w' b n L := MapKd.own_same h (hb.block b (MapKd.own_lt h))
theorem MapKd.own_set (h : M.own w b n L) {a : Addr} (ha : b ≠ a.block) (u : Value) : M.own (w.setCell a u) b n L := let ⟨D, h1, h2⟩ := h; ⟨D, h1.setCell ha u, h2⟩
theorem MapKd.own_mono (h : M.own w b n L) {n' : Nat} (hn : n ≤ n') : M.own w b n' L := let ⟨D, h1, h2⟩ := h; ⟨D, h1.mono hn, h2⟩
theorem MapKd.own_perm (h : M.own w b n L) {L' : List (α × β)} (hp : L.Perm L') : M.own w b n L' := let ⟨D, h1, h2⟩ := h; ⟨D, h1, h2.perm hp⟩
theorem MapKd.own_nodup (h : M.own w b n L) : L.Pairwise fun p q => p.1 ≠ q.1 := let ⟨_, _, h2⟩ := h; h2.1
theorem MapKd.own_good (h : M.own w b n L) : ∀ p ∈ L, M.good p.1 := let ⟨_, _, h2⟩ := h; h2.2.1
theorem MapKd.own_len (h : M.own w b n L) : L.length ≤ n := let ⟨_, h1, h2⟩ := h; h2.size ▸ h1.size_le
theorem MapKd.own_is (h : M.own w b n L) : ∃ es c, w.heap[b]? = some (.map es c) := by
  obtain ⟨D, ⟨es, clock, hb, _⟩, _⟩ := h
  exact ⟨es, clock, hb⟩
end own

/-- a range over a map, under way: the pairs 'done' have come -/
def MapKd.ranges (M : MapKd P k α β) (w : World) (b r n : Nat) (L done : List (α × β)) : Prop :=
  ∃ D left cnt todo, w.ranges P k rdV b r n D left cnt ∧ M.Rep D L ∧ (done ++ todo).Perm L ∧ (∀ p ∈ L, left (M.lK p.1) = true → p ∈ todo) ∧ (∀ p ∈ todo, left (M.lK p.1) = true)

section rng
variable {M : MapKd P k α β} {w : World} {b r n : Nat} {L done : List (α × β)}
theorem MapKd.ranges_kept {w' : World} {row : Option Nat} (h : M.ranges w b r n L done) (hg : w.grownBy w' row) (hb : some b ≠ row) (hr : some r ≠ row) : M.ranges w' b r n L done :=
  let ⟨D, left, cnt, todo, h1, h2⟩ := h; ⟨D, left, cnt, todo, h1.kept hg hb hr, h2⟩
theorem MapKd.ranges_same {w' : World} (h : M.ranges w b r n L done) (e : w'.heap[b]? = w.heap[b]?) (e2 : w'.heap[r]? = w.heap[r]?) : M.ranges w' b r n L done := by
  obtain ⟨D, left, cnt, todo, ⟨es, clock, since, seen, c0, hb, F, hs, hD, hr, rest⟩, h2⟩ := h
  exact ⟨D, left, cnt, todo, ⟨es, clock, since, seen, c0, e.trans hb, F, hs, hD, e2.trans hr, rest⟩, h2⟩
theorem MapKd.ranges_own (h : M.ranges w b r n L done) : M.own w b n L := let ⟨D, left, cnt, todo, h1, h2, _⟩ := h; ⟨D, h1.owns, h2⟩
theorem MapKd.ranges_lt (h : M.ranges w b r n L done) : r < w.heap.size := let ⟨_, _, _, _, h1, _⟩ := h; h1.lt
theorem MapKd.ranges_ne (h : M.ranges w b r n L done) : r ≠ b := let ⟨_, _, _, _, h1, _⟩ := h; h1.ne
theorem MapKd.ranges_below {w' : World} (h : M.ranges w b r n L done) (hb : Below w.heap.size w w') : M.ranges w' b r n L done :=
  MapKd.ranges_same h (hb.block b (MapKd.own_lt (MapKd.ranges_own h))) (hb.block r (MapKd.ranges_lt h))
theorem MapKd.ranges_left {w' : World} (h : M.ranges w b r n L done) (e : w'.heap[b]? = w.heap[b]?) (e2 : w'.heap[r]? = w.heap[r]?) : w'.rangeLeft b r = w.rangeLeft b r := by
  unfold World.rangeLeft; rw [e, e2]
theorem MapKd.ranges_sub (h : M.ranges w b r n L done) : ∀ p ∈ done, p ∈ L := let ⟨_, _, _, _, _, _, h3, _⟩ := h; fun p hp => h3.mem_iff.1 (List.mem_append_left _ hp)
theorem MapKd.ranges_len (h : M.ranges w b r n L done) : done.length ≤ L.length := by
  obtain ⟨_, _, _, todo, _, _, h3, _⟩ := h
  have := h3.length_eq
  rw [List.length_append] at this
  omega
end rng

section ops
variable (w : World) {ops : Array Oper} {rest : List Oper} {o : Oper} {a : Act} {Q : Exit → Act → World → Prop}

/-- 'm[k] = v' -/
theorem wpList_update_om (M : MapKd P k α β) (hg : o.guard = none) (m x v : Operand) (t : TypeId) (hop : o.op = Op.mapUpdate t m x v)
    (e : TypeId) (ht : P.underlying t = some (.map k e)) (b n : Nat) (L : List (α × β))
    (hm : a.eval m = .map (some b)) (hown : M.own w b n L) (hn : n < maxLen) (key : α) (val : β) (hx : a.eval x = M.eK key) (hv : a.eval v = M.eV val) (hgd : M.good key)
    (hK : ∀ w', M.own w' b (n + 1) (putA L key val) → w.grownBy w' (some b) → w.heap.size = w'.heap.size → wpList P ops Q rest (a.put o.dst undef) w') :
    wpList P ops Q (o :: rest) a w := by
  obtain ⟨D, h1, h2⟩ := hown
  refine wpList_plain hg fun K' hK' => ?_
  obtain ⟨w', hrun, r1, r2⟩ := h1.store M.law ht hn (M.key key hgd) (show rdV (M.eV val) = some (.held (M.eV val), []) from rfl)
  unfold Oper.wp
  simp [execOp, hop, hm, hx, hv, hrun, Result.andThen]
  have hs : w.heap.size = w'.heap.size := by
    obtain ⟨_, _, es', c', _, rfl⟩ := r2
    simp [ChangeMaps.setBlock]
  exact hK' _ _ (hK w' ⟨_, r1, h2.put hgd val⟩ r2.grown hs)

/-- a pair of a map that is written out -/
theorem wpList_insert_om (M : MapKd P k α β) (hg : o.guard = none) (m x v : Operand) (t : TypeId) (hop : o.op = Op.insert t m x v)
    (e : TypeId) (ht : P.underlying t = some (.map k e)) (b n : Nat) (L : List (α × β))
    (hm : a.eval m = .map (some b)) (hown : M.own w b n L) (hn : n < maxLen) (key : α) (val : β) (hx : a.eval x = M.eK key) (hv : a.eval v = M.eV val) (hgd : M.good key)
    (hK : ∀ w', M.own w' b (n + 1) (putA L key val) → w.grownBy w' (some b) → w.heap.size = w'.heap.size → wpList P ops Q rest (a.put o.dst undef) w') :
    wpList P ops Q (o :: rest) a w := by
  obtain ⟨D, h1, h2⟩ := hown
  refine wpList_plain hg fun K' hK' => ?_
  obtain ⟨w', hrun, r1, r2⟩ := h1.store M.law ht hn (M.key key hgd) (show rdV (M.eV val) = some (.held (M.eV val), []) from rfl)
  unfold Oper.wp
  simp [execOp, hop, hm, hx, hv, hrun, Result.andThen]
  have hs : w.heap.size = w'.heap.size := by
    obtain ⟨_, _, es', c', _, rfl⟩ := r2
    simp [ChangeMaps.setBlock]
  exact hK' _ _ (hK w' ⟨_, r1, h2.put hgd val⟩ r2.grown hs)

/-- 'v, ok := m[k]' -/
theorem wpList_lookup_ok_om (M : MapKd P k α β) (hg : o.guard = none) (m x : Operand) (t : TypeId) (hop : o.op = Op.lookup t m x true)
    (e : TypeId) (ht : P.underlying t = some (.map k e)) (z : β) (hz : (zeroValue e).run P w = .ok (M.eV z) w) (b n : Nat) (L : List (α × β))
    (hm : a.eval m = .map (some b)) (hown : M.own w b n L) (key : α) (hx : a.eval x = M.eK key) (hgd : M.good key)
    (hK : wpList P ops Q rest (a.put o.dst (.tuple #[M.eV ((getA L key).getD z), .bool (getA L key).isSome])) w) :
    wpList P ops Q (o :: rest) a w := by
  obtain ⟨D, h1, h2⟩ := hown
  refine wpList_plain hg fun K' hK' => ?_
  obtain ⟨v, ps, hrun, hv⟩ := h1.look_ok M.law ht hz (show rdV (M.eV z) = some (.held (M.eV z), []) from rfl) (M.key key hgd)
  have hv' : v = M.eV ((getA L key).getD z) := by
    simp only [rdV, Option.some.injEq, Prod.mk.injEq] at hv
    cases e1 : getA L key with
    | some y => rw [h2.at_some e1] at hv; simpa using hv.1
    | none => rw [Maps.atKey_of_not_has (h2.has_none hgd e1)] at hv; simpa using hv.1
  rw [h2.has_eq hgd, hv'] at hrun
  unfold Oper.wp
  simp only [execOp, hop, hm, hx]
  simp [hrun, Result.andThen]
  exact hK' _ _ (by simpa using hK)

/-- .. where the key is not there -/
theorem wpList_lookup_ok_none (M : MapKd P k α β) (hg : o.guard = none) (m x : Operand) (t : TypeId) (hop : o.op = Op.lookup t m x true)
    (e : TypeId) (ht : P.underlying t = some (.map k e)) (z : β) (hz : (zeroValue e).run P w = .ok (M.eV z) w) (b n : Nat) (L : List (α × β))
    (hm : a.eval m = .map (some b)) (hown : M.own w b n L) (key : α) (hx : a.eval x = M.eK key) (hgd : M.good key) (hn : getA L key = none) (v : Value) (hv : M.eV z = v)
    (hK : wpList P ops Q rest (a.put o.dst (.tuple #[v, .bool false])) w) :
    wpList P ops Q (o :: rest) a w :=
  wpList_lookup_ok_om w M hg m x t hop e ht z hz b n L hm hown key hx hgd (by rw [hn]; subst hv; exact hK)
/-- .. where it is -/
theorem wpList_lookup_ok_some (M : MapKd P k α β) (hg : o.guard = none) (m x : Operand) (t : TypeId) (hop : o.op = Op.lookup t m x true)
    (e : TypeId) (ht : P.underlying t = some (.map k e)) (z : β) (hz : (zeroValue e).run P w = .ok (M.eV z) w) (b n : Nat) (L : List (α × β))
    (hm : a.eval m = .map (some b)) (hown : M.own w b n L) (key : α) (hx : a.eval x = M.eK key) (hgd : M.good key) (y : β) (hn : getA L key = some y) (v : Value) (hv : M.eV y = v)
    (hK : wpList P ops Q rest (a.put o.dst (.tuple #[v, .bool true])) w) :
    wpList P ops Q (o :: rest) a w :=
  wpList_lookup_ok_om w M hg m x t hop e ht z hz b n L hm hown key hx hgd (by rw [hn]; subst hv; exact hK)

/-- 'm[k]' -/
theorem wpList_lookup_om (M : MapKd P k α β) (hg : o.guard = none) (m x : Operand) (t : TypeId) (hop : o.op = Op.lookup t m x false)
    (e : TypeId) (ht : P.underlying t = some (.map k e)) (z : β) (hz : (zeroValue e).run P w = .ok (M.eV z) w) (b n : Nat) (L : List (α × β))
    (hm : a.eval m = .map (some b)) (hown : M.own w b n L) (key : α) (hx : a.eval x = M.eK key) (hgd : M.good key)
    (hK : wpList P ops Q rest (a.put o.dst (M.eV ((getA L key).getD z))) w) :
    wpList P ops Q (o :: rest) a w := by
  obtain ⟨D, h1, h2⟩ := hown
  refine wpList_plain hg fun K' hK' => ?_
  obtain ⟨v, ps, hrun, hv⟩ := h1.lookup M.law ht hz (show rdV (M.eV z) = some (.held (M.eV z), []) from rfl) (M.key key hgd)
  have hv' : v = M.eV ((getA L key).getD z) := by
    simp only [rdV, Option.some.injEq, Prod.mk.injEq] at hv
    cases e1 : getA L key with
    | some y => rw [h2.at_some e1] at hv; simpa using hv.1
    | none => rw [Maps.atKey_of_not_has (h2.has_none hgd e1)] at hv; simpa using hv.1
  rw [hv'] at hrun
  unfold Oper.wp
  simp only [execOp, hop, hm, hx]
  simp [hrun, Result.andThen]
  exact hK' _ _ (by simpa using hK)

/-- 'len(m)' -/
theorem wpList_len_om (M : MapKd P k α β) (hg : o.guard = none) (m : Operand) (t : TypeId) (hop : o.op = Op.call { callee := Callee.builtin Builtin.len, args := #[m], argTypes := #[t] })
    (e : TypeId) (ht : P.underlying t = some (.map k e)) (b n : Nat) (L : List (α × β)) (hm : a.eval m = .map (some b)) (hown : M.own w b n L)
    (hK : wpList P ops Q rest (a.put o.dst (.int .i64 (L.length : Int))) w) :
    wpList P ops Q (o :: rest) a w := by
  obtain ⟨D, h1, h2⟩ := hown
  refine wpList_len_own w hg m t hop k e ht rdV b n D hm h1 ?_
  rw [h2.size]; exact hK

/-- 'delete(m, k)' -/
theorem wpList_delete_om (M : MapKd P k α β) (hg : o.guard = none) (m x : Operand) (t : TypeId) (hop : o.op = Op.call { callee := Callee.builtin Builtin.delete, args := #[m, x], argTypes := #[t, k] })
    (e : TypeId) (ht : P.underlying t = some (.map k e)) (b n : Nat) (L : List (α × β))
    (hm : a.eval m = .map (some b)) (hown : M.own w b n L) (key : α) (hx : a.eval x = M.eK key) (hgd : M.good key)
    (hK : ∀ w', M.own w' b n (delA L key) → w.grownBy w' (some b) → w.heap.size = w'.heap.size → wpList P ops Q rest (a.put o.dst (.tuple #[])) w') :
    wpList P ops Q (o :: rest) a w := by
  obtain ⟨D, h1, h2⟩ := hown
  refine wpList_delete_own w hg m x t k hop e M.law ht rdV b n D hm h1 (M.eK key) (M.lK key) hx (M.key key hgd) (fun w' r1 r2 => ?_)
  have hs : w.heap.size = w'.heap.size := by
    obtain ⟨_, _, es', c', _, rfl⟩ := r2
    simp [ChangeMaps.setBlock]
  exact hK w' ⟨_, r1, h2.del hgd⟩ r2.grown hs

/-- 'range m' -/
theorem wpList_range_om (M : MapKd P k α β) (hg : o.guard = none) (m : Operand) (t : TypeId) (hop : o.op = Op.range t m) (e : TypeId) (ht : P.underlying t = some (.map k e)) (b n : Nat) (L : List (α × β))
    (hm : a.eval m = .map (some b)) (hown : M.own w b n L)
    (hK : ∀ w', M.ranges w' b w.heap.size n L [] → w.grownBy w' none → w'.heap.size = w.heap.size + 1 → wpList P ops Q rest (a.put o.dst (.pointer (some ⟨w.heap.size, 0, none⟩))) w') :
    wpList P ops Q (o :: rest) a w := by
  obtain ⟨D, h1, h2⟩ := hown
  refine wpList_range_own w hg m t hop k e M.law ht rdV b n D hm h1 (fun w' hr hgr hs => ?_)
  exact hK w' ⟨D, _, _, L, hr, h2, by simp, fun p hp _ => hp, fun p hp => h2.has_some (getA_mem h2.1 hp)⟩ hgr hs

/-- the step of a range -/
theorem wpList_next_om (M : MapKd P k α β) (hg : o.guard = none) (it : Operand) (hop : o.op = Op.next it false) (b r n : Nat) (L done : List (α × β))
    (hit : a.eval it = .pointer (some ⟨r, 0, none⟩)) (h : M.ranges w b r n L done)
    (hDone : done.Perm L → wpList P ops Q rest (a.put o.dst (.tuple #[.bool false])) w)
    (hMore : ∀ (x : α) (y : β) (w' : World), (x, y) ∈ L → (x, y) ∉ done → M.ranges w' b r n L (done ++ [(x, y)]) → w'.rangeLeft b r < w.rangeLeft b r → w.grownBy w' (some r) → w'.heap.size = w.heap.size →
      (Instr.entry (.pointer (some ⟨r, 0, none⟩))).run P w' = .ok (.tuple #[M.eK x, M.eV y]) w' → wpList P ops Q rest (a.put o.dst (.tuple #[.bool true, M.eK x, M.eV y])) w') :
    wpList P ops Q (o :: rest) a w := by
  obtain ⟨D, left, cnt, todo, h1, h2, h3, h4, h5⟩ := h
  refine wpList_plain hg fun K' hK' => ?_
  unfold Oper.wp
  rcases h1.next M.law o.type with ⟨h0, hl, hrun⟩ | ⟨key, v, kl, y, w', cnt', hkey, hlk, hv, hat, hrun, hrg, hlt, hgr, hsz, hen⟩
  · simp [execOp, hop, hit, hrun, Result.andThen]
    refine hK' _ _ (hDone ?_)
    cases todo with
    | nil => simpa using h3
    | cons q t => have := h5 q (by simp); rw [hl] at this; cases this
  · have hhas := Maps.has_true_of_atKey hat
    have ⟨hn, hgood, es, hes, hpm⟩ := h2
    subst hes
    obtain ⟨p, hp, hs⟩ := List.any_eq_true.1 (show es.any (fun p => p.1.sameKey kl) = true from hhas)
    obtain ⟨⟨x, c⟩, hq, rfl⟩ := List.mem_map.1 (hpm.mem_iff.1 hp)
    obtain rfl := WideAt.sameKey_eq hs
    obtain rfl : key = M.eK x := M.law.inj hkey (M.key x (hgood _ hq))
    have hc : y.1 = .held (M.eV c) := (hat .nil).symm.trans (h2.at_some (getA_mem hn hq) .nil)
    obtain rfl : v = M.eV c := by
      simp only [rdV, Option.some.injEq] at hv
      rw [← hv] at hc
      simpa using hc
    have htodo : (x, c) ∈ todo := h4 _ hq hlk
    have hnd : (done ++ todo).Pairwise fun p q => p.1 ≠ q.1 := (h3.pairwise_iff (fun {_ _} h => Ne.symm h)).2 hn
    obtain ⟨t1, t2, rfl⟩ := List.append_of_mem htodo
    have hperm : (done ++ (t1 ++ (x, c) :: t2)).Perm ((done ++ [(x, c)]) ++ (t1 ++ t2)) := by
      rw [List.append_assoc]
      refine List.Perm.append_left _ ?_
      exact List.perm_middle
    have hnd2 := (hperm.pairwise_iff (fun {_ _} h => Ne.symm h)).1 hnd
    rw [List.pairwise_append] at hnd2
    obtain ⟨n1, n2, n3⟩ := hnd2
    rw [List.pairwise_append] at n1
    simp [execOp, hop, hit, hrun, Result.andThen]
    refine hK' _ _ (hMore x c w' hq (fun hd => ?_) ⟨_, _, cnt', t1 ++ t2, hrg, h2, hperm.symm.trans h3, fun p hp hl => ?_, fun p hp => ?_⟩ ?_ hgr hsz hen)
    · exact n1.2.2 _ hd _ (by simp) rfl
    · simp only [Bool.and_eq_true, Bool.not_eq_true'] at hl
      have := h4 p hp hl.1
      rcases List.mem_append.1 this with h | h
      · exact List.mem_append_left _ h
      · rcases List.mem_cons.1 h with rfl | h
        · rw [WideAt.sameKey_self (M.law.key (M.key x (hgood _ hq)))] at hl; simp at hl
        · exact List.mem_append_right _ h
    · have hpl : p ∈ L := h3.mem_iff.1 (List.mem_append_right _ (by
        rcases List.mem_append.1 hp with h | h
        · exact List.mem_append_left _ h
        · exact List.mem_append_right _ (List.mem_cons_of_mem _ h)))
      have hl := h5 p (by
        rcases List.mem_append.1 hp with h | h
        · exact List.mem_append_left _ h
        · exact List.mem_append_right _ (List.mem_cons_of_mem _ h))
      simp only [Bool.and_eq_true, Bool.not_eq_true']
      refine ⟨hl, sameKey_ne (fun e => ?_)⟩
      exact n3 (x, c) (by simp) p hp (M.inj _ _ (hgood _ hq) (hgood _ hpl) e.symm)
    · rw [hrg.left_eq, h1.left_eq]; exact hlt
end ops
end Go.Proofs.Ytlhodfjdmafapaa
