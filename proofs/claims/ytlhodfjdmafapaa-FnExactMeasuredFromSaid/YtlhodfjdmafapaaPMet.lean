/- Plain: the sands that are met, and their least times. No statement of the seat is proved here. -/
import Derived.Test.YtlhodfjdmafapaaPIds
namespace Go.Proofs.Ytlhodfjdmafapaa
open Go.RowKit
set_option linter.unusedVariables false
set_option linter.unusedSimpArgs false
def goS (k : Nat → Int) (x : Sd) (set : Int) : Sd := tup4 (stepS k (fn4 x) set)
def goD (k : Nat → Int) (x : Sd) (set : Int) : Int := stepD k (fn4 x) set
def calm0 : Sd := (0, 0, 0, 0)
inductive Reach (k : Nat → Int) : Sd → Int → Prop
  | calm : Reach k calm0 0
  | step (x : Sd) (t set : Int) : Reach k x t → set ∈ setsL k → 0 < goD k x set → Reach k (goS k x set) (t + goD k x set)
theorem calm_sand {k : Nat → Int} (hk : ∀ i, i < 4 → 0 ≤ k i ∧ k i ≤ 30) : Sand k (fn4 calm0) :=
  ⟨fun i hi => by obtain rfl | rfl | rfl | rfl : i = 0 ∨ i = 1 ∨ i = 2 ∨ i = 3 := by omega
                  all_goals exact Int.le_refl 0,
   fun i hi => by have := (hk i hi).1
                  obtain rfl | rfl | rfl | rfl : i = 0 ∨ i = 1 ∨ i = 2 ∨ i = 3 := by omega
                  all_goals exact this, fun i hi => (hk i hi).2⟩
theorem Reach.sand {k : Nat → Int} (hk : ∀ i, i < 4 → 0 ≤ k i ∧ k i ≤ 30) {x : Sd} {t : Int} (h : Reach k x t) : Sand k (fn4 x) ∧ 0 ≤ t := by
  induction h with
  | calm => exact ⟨calm_sand hk, Int.le_refl 0⟩
  | step x t set _ _ hd ih => exact ⟨sand_tup (ih.1.step set), by have := ih.2; omega⟩
/-- all sands that are met, with their least times -/
structure Met (k : Nat → Int) (M : List (Sd × Int)) : Prop where
  nd : Nd M
  calm : (calm0, 0) ∈ M
  reach : ∀ p ∈ M, Reach k p.1 p.2
  next : ∀ p ∈ M, ∀ set ∈ setsL k, 0 < goD k p.1 set → ∃ t, t ≤ p.2 + goD k p.1 set ∧ (goS k p.1 set, t) ∈ M
theorem nd_one {α β : Type} {M : List (α × β)} (h : Nd M) {x : α} {a b : β} (ha : (x, a) ∈ M) (hb : (x, b) ∈ M) : a = b := by
  have h1 := getA_mem h ha
  have h2 := getA_mem h hb
  rw [h1] at h2
  exact Option.some.inj h2
theorem Met.least {k : Nat → Int} {M : List (Sd × Int)} (h : Met k M) {x : Sd} {t : Int} (r : Reach k x t) : ∃ t', t' ≤ t ∧ (x, t') ∈ M := by
  induction r with
  | calm => exact ⟨0, Int.le_refl 0, h.calm⟩
  | step x t set _ hs hd ih =>
    obtain ⟨t', h1, h2⟩ := ih
    obtain ⟨u, h3, h4⟩ := h.next _ h2 set hs hd
    exact ⟨u, by simp only at h3; omega, h4⟩
theorem Met.sub {k : Nat → Int} {M M' : List (Sd × Int)} (h : Met k M) (h' : Met k M') : ∀ p, p ∈ M → p ∈ M' := by
  rintro ⟨x, t⟩ hp
  obtain ⟨t', a1, a2⟩ := h'.least (h.reach _ hp)
  obtain ⟨t'', b1, b2⟩ := h.least (h'.reach _ a2)
  have := nd_one h.nd hp b2
  obtain rfl : t' = t := by simp only at a1 b1; omega
  exact a2
theorem Met.perm {k : Nat → Int} {M M' : List (Sd × Int)} (h : Met k M) (h' : Met k M') : M.Perm M' :=
  perm_of_mem (nd_nodup h.nd) (nd_nodup h'.nd) (fun p => ⟨h.sub h' p, h'.sub h p⟩)
open Classical in
noncomputable def metL (k : Nat → Int) : List (Sd × Int) := if h : ∃ M, Met k M then h.choose else []
theorem metL_met {k : Nat → Int} {M : List (Sd × Int)} (h : Met k M) : Met k (metL k) := by
  unfold metL
  rw [dif_pos ⟨M, h⟩]
  exact Exists.choose_spec (⟨M, h⟩ : ∃ M, Met k M)
theorem metL_perm {k : Nat → Int} {M : List (Sd × Int)} (h : Met k M) : M.Perm (metL k) := h.perm (metL_met h)
theorem few31 {k : Nat → Int} (hk : ∀ i, i < 4 → 0 ≤ k i ∧ k i ≤ 30) {M : List (Sd × Int)} (hn : Nd M) (hr : ∀ p ∈ M, Reach k p.1 p.2) : M.length ≤ 923521 := by
  have := few_nats 923521 (M.map fun e => (((e.1.1 * 31 + e.1.2.1) * 31 + e.1.2.2.1) * 31 + e.1.2.2.2).toNat) (by
    unfold List.Nodup
    rw [List.pairwise_map]
    refine List.Pairwise.imp_of_mem ?_ hn
    rintro ⟨⟨a0, a1, a2, a3⟩, t⟩ ⟨⟨b0, b1, b2, b3⟩, u⟩ hp hq hne e
    obtain ⟨ha, _⟩ := (hr _ hp).sand hk
    obtain ⟨hb, _⟩ := (hr _ hq).sand hk
    have p0 : 0 ≤ a0 ∧ a0 ≤ k 0 ∧ k 0 ≤ 30 := ⟨ha.lo 0 (by omega), ha.hi 0 (by omega), ha.top 0 (by omega)⟩
    have p1 : 0 ≤ a1 ∧ a1 ≤ k 1 ∧ k 1 ≤ 30 := ⟨ha.lo 1 (by omega), ha.hi 1 (by omega), ha.top 1 (by omega)⟩
    have p2 : 0 ≤ a2 ∧ a2 ≤ k 2 ∧ k 2 ≤ 30 := ⟨ha.lo 2 (by omega), ha.hi 2 (by omega), ha.top 2 (by omega)⟩
    have p3 : 0 ≤ a3 ∧ a3 ≤ k 3 ∧ k 3 ≤ 30 := ⟨ha.lo 3 (by omega), ha.hi 3 (by omega), ha.top 3 (by omega)⟩
    have q0 : 0 ≤ b0 ∧ b0 ≤ k 0 := ⟨hb.lo 0 (by omega), hb.hi 0 (by omega)⟩
    have q1 : 0 ≤ b1 ∧ b1 ≤ k 1 := ⟨hb.lo 1 (by omega), hb.hi 1 (by omega)⟩
    have q2 : 0 ≤ b2 ∧ b2 ≤ k 2 := ⟨hb.lo 2 (by omega), hb.hi 2 (by omega)⟩
    have q3 : 0 ≤ b3 ∧ b3 ≤ k 3 := ⟨hb.lo 3 (by omega), hb.hi 3 (by omega)⟩
    apply hne
    simp only at e
    show (a0, a1, a2, a3) = (b0, b1, b2, b3)
    have e3 : a3 = b3 := by omega
    have e2 : a2 = b2 := by omega
    have e1 : a1 = b1 := by omega
    have e0 : a0 = b0 := by omega
    rw [e0, e1, e2, e3]) (fun x hx => by
    obtain ⟨⟨⟨a0, a1, a2, a3⟩, t⟩, he, rfl⟩ := List.mem_map.1 hx
    obtain ⟨ha, _⟩ := (hr _ he).sand hk
    have p0 : 0 ≤ a0 ∧ a0 ≤ k 0 ∧ k 0 ≤ 30 := ⟨ha.lo 0 (by omega), ha.hi 0 (by omega), ha.top 0 (by omega)⟩
    have p1 : 0 ≤ a1 ∧ a1 ≤ k 1 ∧ k 1 ≤ 30 := ⟨ha.lo 1 (by omega), ha.hi 1 (by omega), ha.top 1 (by omega)⟩
    have p2 : 0 ≤ a2 ∧ a2 ≤ k 2 ∧ k 2 ≤ 30 := ⟨ha.lo 2 (by omega), ha.hi 2 (by omega), ha.top 2 (by omega)⟩
    have p3 : 0 ≤ a3 ∧ a3 ≤ k 3 ∧ k 3 ≤ 30 := ⟨ha.lo 3 (by omega), ha.hi 3 (by omega), ha.top 3 (by omega)⟩
    simp only
    omega)
  simpa using this
/-! the program's way -/
def updQ (Q : Int → List Sd) (t : Int) (l : List Sd) : Int → List Sd := fun u => if u = t then l else Q u
theorem updQ_same (Q : Int → List Sd) (t : Int) (l : List Sd) : updQ Q t l t = l := by unfold updQ; rw [if_pos rfl]
theorem updQ_ne (Q : Int → List Sd) {t u : Int} (l : List Sd) (h : u ≠ t) : updQ Q t l u = Q u := by unfold updQ; rw [if_neg h]
/-- what waits behind position i of the list of 'time' -/
def Pend (Q : Int → List Sd) (time : Int) (i : Nat) (t : Int) (s : Sd) : Prop := (time < t ∧ s ∈ Q t) ∨ (t = time ∧ s ∈ (Q time).drop i)
structure MInv (k : Nat → Int) (M : List (Sd × Int)) (Q : Int → List Sd) (time last : Int) (i : Nat) (x : Sd) (rest : List Int) : Prop where
  nd : Nd M
  reach : ∀ p ∈ M, Reach k p.1 p.2
  old : ∀ p ∈ M, p.2 ≤ time
  queue : ∀ t s, s ∈ Q t → Reach k s t
  calm : (calm0, 0) ∈ M ∨ Pend Q time i 0 calm0
  next : ∀ p ∈ M, ∀ set ∈ setsL k, 0 < goD k p.1 set → (p.1 = x ∧ set ∈ rest) ∨ (∃ t, t ≤ p.2 + goD k p.1 set ∧ (goS k p.1 set, t) ∈ M) ∨ Pend Q time i (p.2 + goD k p.1 set) (goS k p.1 set)
  lastQ : ∀ t s, s ∈ Q t → t ≤ last
  lastB : last ≤ 30 * (M.length : Int)
  cur : rest = [] ∨ ((x, time) ∈ M ∧ time + 30 ≤ 30 * (M.length : Int))
  len : ∀ t, (Q t).length + rest.length ≤ 1 + 16 * M.length
  sub : ∀ set ∈ rest, set ∈ setsL k
  t0 : 0 ≤ time
  l0 : 0 ≤ last
def startQ : Int → List Sd := updQ (fun _ => []) 0 [calm0]
theorem MInv.start (k : Nat → Int) : MInv k [] startQ 0 0 0 calm0 [] where
  nd := List.Pairwise.nil
  reach := fun p hp => absurd hp List.not_mem_nil
  old := fun p hp => absurd hp List.not_mem_nil
  queue := fun t s hs => by
    by_cases e : t = 0
    · subst e
      rw [startQ, updQ_same] at hs
      rw [List.mem_singleton.1 hs]
      exact Reach.calm
    · rw [startQ, updQ_ne _ _ e] at hs
      exact absurd hs List.not_mem_nil
  calm := .inr (.inr ⟨rfl, by rw [startQ, updQ_same]; exact List.mem_cons_self⟩)
  next := fun p hp => absurd hp List.not_mem_nil
  lastQ := fun t s hs => by
    by_cases e : t = 0
    · omega
    · rw [startQ, updQ_ne _ _ e] at hs
      exact absurd hs List.not_mem_nil
  lastB := by simp
  cur := .inl rfl
  len := fun t => by
    by_cases e : t = 0
    · subst e; rw [startQ, updQ_same]; simp
    · rw [startQ, updQ_ne _ _ e]; simp
  sub := fun s hs => absurd hs List.not_mem_nil
  t0 := Int.le_refl 0
  l0 := Int.le_refl 0
section
variable {k : Nat → Int} {M : List (Sd × Int)} {Q : Int → List Sd} {time last : Int} {i : Nat} {x : Sd} {rest : List Int}
theorem Pend.next {t : Int} {s s0 : Sd} (h : Pend Q time i t s) (h0 : (Q time)[i]? = some s0) : Pend Q time (i + 1) t s ∨ (t = time ∧ s = s0) := by
  rcases h with h | ⟨h1, h2⟩
  · exact .inl (.inl h)
  · have hl : i < (Q time).length := by
      rcases Nat.lt_or_ge i (Q time).length with q | q
      · exact q
      · rw [List.getElem?_eq_none q] at h0; cases h0
    rw [List.drop_eq_getElem_cons hl] at h2
    have e : (Q time)[i] = s0 := by rw [List.getElem?_eq_getElem hl] at h0; exact Option.some.inj h0
    rw [e] at h2
    rcases List.mem_cons.1 h2 with h2 | h2
    · exact .inr ⟨h1, h2⟩
    · exact .inl (.inr ⟨h1, h2⟩)
/-- the sand is there already -/
theorem MInv.skip (h : MInv k M Q time last i x []) {s : Sd} {t0 : Int} (hs : (Q time)[i]? = some s) (hm : (s, t0) ∈ M) : MInv k M Q time last (i + 1) x [] where
  nd := h.nd
  reach := h.reach
  old := h.old
  queue := h.queue
  calm := by
    rcases h.calm with c | c
    · exact .inl c
    · rcases c.next hs with c | ⟨c1, c2⟩
      · exact .inr c
      · subst c2
        have h1 := h.old _ hm
        have h2 : 0 ≤ t0 := by
          obtain ⟨u, hu⟩ : ∃ u, u = t0 := ⟨_, rfl⟩
          have : ∀ {y : Sd} {v : Int}, Reach k y v → 0 ≤ v := fun r => by
            induction r with
            | calm => exact Int.le_refl 0
            | step _ _ _ _ _ hd ih => omega
          exact this (h.reach _ hm)
        simp only at h1
        obtain rfl : t0 = 0 := by omega
        exact .inl hm
  next := fun p hp set hset hd => by
    rcases h.next p hp set hset hd with c | c | c
    · exact .inl c
    · exact .inr (.inl c)
    · rcases c.next hs with c | ⟨c1, c2⟩
      · exact .inr (.inr c)
      · rw [c2]
        have := h.old _ hm
        exact .inr (.inl ⟨t0, by simp only at this; omega, hm⟩)
  lastQ := h.lastQ
  lastB := h.lastB
  cur := h.cur
  len := h.len
  sub := h.sub
  t0 := h.t0
  l0 := h.l0
theorem delA_absent {α β : Type} {L : List (α × β)} {x : α} (h : getA L x = none) : delA L x = L := by
  unfold delA
  rw [List.filter_eq_self]
  intro p hp
  simpa using getA_none h p hp
theorem putA_absent {α β : Type} {L : List (α × β)} {x : α} {y : β} (h : getA L x = none) : putA L x y = (x, y) :: L := by rw [putA, delA_absent h]
/-- the sand is met now -/
theorem MInv.settle (h : MInv k M Q time last i x []) (hl : time ≤ last) {s : Sd} (hs : (Q time)[i]? = some s) (hm : getA M s = none) : MInv k (putA M s time) Q time last (i + 1) s (setsL k) := by
  have e := putA_absent (y := time) hm
  have hlen : (putA M s time).length = M.length + 1 := by rw [e]; rfl
  refine ⟨putA_nodup h.nd s time, fun p hp => ?_, fun p hp => ?_, h.queue, ?_, fun p hp set hset hd => ?_, h.lastQ, ?_, .inr ⟨by rw [e]; exact List.mem_cons_self, ?_⟩, fun t => ?_, fun _ hh => hh, h.t0, h.l0⟩
  · rw [e] at hp
    rcases List.mem_cons.1 hp with rfl | hp
    · exact h.queue _ _ (List.mem_of_getElem? hs)
    · exact h.reach _ hp
  · rw [e] at hp
    rcases List.mem_cons.1 hp with rfl | hp
    · exact Int.le_refl _
    · exact h.old _ hp
  · rw [e]
    rcases h.calm with c | c
    · exact .inl (List.mem_cons_of_mem _ c)
    · rcases c.next hs with c | ⟨c1, c2⟩
      · exact .inr c
      · rw [c1, c2]; exact .inl List.mem_cons_self
  · rw [e] at hp ⊢
    rcases List.mem_cons.1 hp with rfl | hp
    · exact .inl ⟨rfl, hset⟩
    · rcases h.next p hp set hset hd with ⟨_, c⟩ | ⟨t, c1, c2⟩ | c
      · exact absurd c List.not_mem_nil
      · exact .inr (.inl ⟨t, c1, List.mem_cons_of_mem _ c2⟩)
      · rcases c.next hs with c | ⟨c1, c2⟩
        · exact .inr (.inr c)
        · exact .inr (.inl ⟨time, by omega, by rw [c2]; exact List.mem_cons_self⟩)
  · rw [hlen]; have := h.lastB; omega
  · rw [hlen]; have := h.lastB; omega
  · have h1 := h.len t
    have h2 := setsL_len k
    rw [hlen]
    simp only [List.length_nil] at h1
    omega
/-- nothing runs, or the next sand is there -/
theorem MInv.drop {set : Int} (h : MInv k M Q time last i x (set :: rest)) (hc : goD k x set ≤ 0 ∨ ∃ t, (goS k x set, t) ∈ M) : MInv k M Q time last i x rest where
  nd := h.nd
  reach := h.reach
  old := h.old
  queue := h.queue
  calm := h.calm
  next := fun p hp st hset hd => by
    rcases h.next p hp st hset hd with ⟨c1, c2⟩ | c
    · rcases List.mem_cons.1 c2 with rfl | c2
      · rw [c1] at hd
        rcases hc with hc | ⟨t, hc⟩
        · omega
        · refine .inr (.inl ⟨t, ?_, by rw [c1]; exact hc⟩)
          have h1 := h.old _ hc
          rcases h.cur with q | ⟨q, _⟩
          · cases q
          · have e : p.2 = time := nd_one h.nd (x := x) (by rw [← c1]; exact hp) q
            rw [c1, e]
            simp only at h1
            omega
      · exact .inl ⟨c1, c2⟩
    · exact .inr c
  lastQ := h.lastQ
  lastB := h.lastB
  cur := by
    rcases h.cur with q | q
    · cases q
    · exact .inr q
  len := fun t => by have := h.len t; simp only [List.length_cons] at this; omega
  sub := fun s hs => h.sub s (List.mem_cons_of_mem _ hs)
  t0 := h.t0
  l0 := h.l0
/-- the next sand is put into the queue -/
theorem MInv.push {set : Int} (h : MInv k M Q time last i x (set :: rest)) (hd : 0 < goD k x set) (h30 : goD k x set ≤ 30) : MInv k M (updQ Q (time + goD k x set) (Q (time + goD k x set) ++ [goS k x set])) time (max last (time + goD k x set)) i x rest := by
  obtain ⟨hx, hb⟩ : (x, time) ∈ M ∧ time + 30 ≤ 30 * (M.length : Int) := by
    rcases h.cur with q | q
    · cases q
    · exact q
  have hself : updQ Q (time + goD k x set) (Q (time + goD k x set) ++ [goS k x set]) time = Q time := updQ_ne _ _ (by omega)
  have hpend : ∀ t s, Pend Q time i t s → Pend (updQ Q (time + goD k x set) (Q (time + goD k x set) ++ [goS k x set])) time i t s := fun t s c => by
    rcases c with ⟨c1, c2⟩ | ⟨c1, c2⟩
    · refine .inl ⟨c1, ?_⟩
      by_cases q : t = time + goD k x set
      · rw [q, updQ_same]; rw [q] at c2; exact List.mem_append_left _ c2
      · rw [updQ_ne _ _ q]; exact c2
    · exact .inr ⟨c1, by rw [hself]; exact c2⟩
  refine ⟨h.nd, h.reach, h.old, fun t s hs => ?_, ?_, fun p hp st hset hd2 => ?_, fun t s hs => ?_, ?_, .inr ⟨hx, hb⟩, fun t => ?_, fun s hs => h.sub s (List.mem_cons_of_mem _ hs), h.t0, by have := h.l0; omega⟩
  · by_cases q : t = time + goD k x set
    · rw [q, updQ_same] at hs
      rcases List.mem_append.1 hs with hs | hs
      · rw [q]; exact h.queue _ _ hs
      · rw [q, List.mem_singleton.1 hs]
        exact Reach.step x time set (h.reach _ hx) (h.sub set List.mem_cons_self) hd
    · rw [updQ_ne _ _ q] at hs
      exact h.queue _ _ hs
  · rcases h.calm with c | c
    · exact .inl c
    · exact .inr (hpend _ _ c)
  · rcases h.next p hp st hset hd2 with ⟨c1, c2⟩ | c | c
    · rcases List.mem_cons.1 c2 with rfl | c2
      · have e : p.2 = time := nd_one h.nd (x := x) (by rw [← c1]; exact hp) hx
        refine .inr (.inr (.inl ⟨?_, ?_⟩))
        · rw [e]; omega
        · rw [c1, e, updQ_same]; exact List.mem_append_right _ List.mem_cons_self
      · exact .inl ⟨c1, c2⟩
    · exact .inr (.inl c)
    · exact .inr (.inr (hpend _ _ c))
  · by_cases q : t = time + goD k x set
    · omega
    · rw [updQ_ne _ _ q] at hs
      have := h.lastQ _ _ hs
      omega
  · have := h.lastB
    omega
  · have h1 := h.len t
    simp only [List.length_cons] at h1
    by_cases q : t = time + goD k x set
    · rw [q, updQ_same]
      rw [q] at h1
      simp only [List.length_append, List.length_cons, List.length_nil]
      omega
    · rw [updQ_ne _ _ q]; omega
/-- the list of this time is done -/
theorem MInv.tick (h : MInv k M Q time last i x []) (hi : (Q time).length ≤ i) : MInv k M (updQ Q time []) (time + 1) last 0 calm0 [] := by
  have hpend : ∀ t s, Pend Q time i t s → Pend (updQ Q time []) (time + 1) 0 t s := fun t s c => by
    rcases c with ⟨c1, c2⟩ | ⟨c1, c2⟩
    · by_cases q : t = time + 1
      · exact .inr ⟨q, by rw [List.drop_zero, updQ_ne _ _ (by omega)]; rw [q] at c2; exact c2⟩
      · exact .inl ⟨by omega, by rw [updQ_ne _ _ (by omega)]; exact c2⟩
    · rw [List.drop_eq_nil_of_le hi] at c2
      exact absurd c2 List.not_mem_nil
  refine ⟨h.nd, h.reach, fun p hp => by have := h.old p hp; omega, fun t s hs => ?_, ?_, fun p hp set hset hd => ?_, fun t s hs => ?_, h.lastB, .inl rfl, fun t => ?_, fun _ hs => absurd hs List.not_mem_nil, by have := h.t0; omega, h.l0⟩
  · by_cases q : t = time
    · rw [q, updQ_same] at hs; exact absurd hs List.not_mem_nil
    · rw [updQ_ne _ _ q] at hs; exact h.queue _ _ hs
  · rcases h.calm with c | c
    · exact .inl c
    · exact .inr (hpend _ _ c)
  · rcases h.next p hp set hset hd with ⟨_, c⟩ | c | c
    · exact absurd c List.not_mem_nil
    · exact .inr (.inl c)
    · exact .inr (.inr (hpend _ _ c))
  · by_cases q : t = time
    · rw [q, updQ_same] at hs; exact absurd hs List.not_mem_nil
    · rw [updQ_ne _ _ q] at hs; exact h.lastQ _ _ hs
  · have := h.len t
    by_cases q : t = time
    · rw [q, updQ_same]; simp only [List.length_nil]; omega
    · rw [updQ_ne _ _ q]; exact this
theorem MInv.any (h : MInv k M Q time last i x []) (y : Sd) : MInv k M Q time last i y [] :=
  ⟨h.nd, h.reach, h.old, h.queue, h.calm, fun p hp set hset hd => (h.next p hp set hset hd).imp (fun c => absurd c.2 List.not_mem_nil) (fun c => c), h.lastQ, h.lastB, .inl rfl, h.len, fun _ hs => absurd hs List.not_mem_nil, h.t0, h.l0⟩
theorem MInv.met (h : MInv k M Q time last 0 x []) (hl : last < time) : Met k M := by
  have hpend : ∀ t s, ¬ Pend Q time 0 t s := fun t s c => by
    rcases c with ⟨c1, c2⟩ | ⟨c1, c2⟩
    · have := h.lastQ _ _ c2; omega
    · have := h.lastQ _ _ (List.mem_of_mem_drop c2); omega
  refine ⟨h.nd, ?_, h.reach, fun p hp set hset hd => ?_⟩
  · rcases h.calm with c | c
    · exact c
    · exact absurd c (hpend _ _)
  · rcases h.next p hp set hset hd with ⟨_, c⟩ | c | c
    · exact absurd c List.not_mem_nil
    · exact c
    · exact absurd c (hpend _ _)
end
end Go.Proofs.Ytlhodfjdmafapaa
