/- Levels of plans: plain words and laws. No statement of the seat is proved here. -/
import Derived.Test.YtlhodfjdmafapaaMaps
namespace Go.Proofs.Ytlhodfjdmafapaa
open Go.RowKit
set_option linter.unusedVariables false
set_option linter.unusedSimpArgs false
abbrev Spot : Type := Sd × Int
abbrev Ent : Type := Spot × (Int × Int)
def setsL (k : Nat → Int) : List Int := ((List.range 16).map fun (i : Nat) => (i : Int)).filter (isSetB k)
theorem setsL_mem {k : Nat → Int} {x : Int} (h : x ∈ setsL k) : 0 ≤ x ∧ x ≤ 15 ∧ isSetB k x = true := by
  obtain ⟨h1, h2⟩ := List.mem_filter.1 h
  obtain ⟨i, hi, rfl⟩ := List.mem_map.1 h1
  have := List.mem_range.1 hi
  exact ⟨by omega, by omega, h2⟩
theorem setsL_len (k : Nat → Int) : (setsL k).length ≤ 16 := by
  unfold setsL
  exact Nat.le_trans (List.length_filter_le _ _) (by simp)
/-- how many glasses a set has -/
def ones (x : Int) : Int := x % 2 + x / 2 % 2 + x / 4 % 2 + x / 8 % 2
theorem ones_b (x : Int) : 0 ≤ ones x ∧ ones x ≤ 4 := by unfold ones; omega
/-- one more set behind a spot -/
def goTo (k : Nat → Int) (most : Int) (x : Spot) (set : Int) : Option Spot :=
  if stepD k (fn4 x.1) set = 0 ∨ most < x.2 + stepD k (fn4 x.1) set then none else some (tup4 (stepS k (fn4 x.1) set), x.2 + stepD k (fn4 x.1) set)
def con1 (k : Nat → Int) (most : Int) (e : Ent) (set : Int) : List Ent :=
  match goTo k most e.1 set with
  | none => []
  | some y => [(y, (e.2.1, e.2.2 + ones set))]
def con (k : Nat → Int) (most : Int) (e : Ent) : List Ent := (setsL k).flatMap (con1 k most e)
def mgP (a b : Int × Int) : Int × Int := (wrap64 (a.1 + b.1), min a.2 b.2)
def mgO (o : Option (Int × Int)) (b : Int × Int) : Option (Int × Int) := some (match o with | none => b | some a => mgP a b)
def stepV (x : Spot) (o : Option (Int × Int)) (p : Ent) : Option (Int × Int) := if p.1 = x then mgO o p.2 else o
def valP (C : List Ent) (x : Spot) : Option (Int × Int) := C.foldl (stepV x) none
theorem wrap64_comm (a b c : Int) : wrap64 (wrap64 (a + b) + c) = wrap64 (wrap64 (a + c) + b) := by unfold wrap64; omega
theorem mgO_swap (o : Option (Int × Int)) (b c : Int × Int) : mgO (mgO o b) c = mgO (mgO o c) b := by
  cases o with
  | none => simp only [mgO, mgP]; rw [Int.add_comm c.1 b.1, Int.min_comm c.2 b.2]
  | some a =>
    simp only [mgO, mgP]
    rw [wrap64_comm a.1 b.1 c.1, show min (min a.2 b.2) c.2 = min (min a.2 c.2) b.2 by omega]
theorem stepV_swap (x : Spot) (o : Option (Int × Int)) (p q : Ent) : stepV x (stepV x o p) q = stepV x (stepV x o q) p := by
  unfold stepV
  by_cases hp : p.1 = x <;> by_cases hq : q.1 = x <;> simp only [hp, hq, if_true, if_false]
  exact mgO_swap o p.2 q.2
theorem foldl_perm {α β : Type} {f : β → α → β} (hf : ∀ b p q, f (f b p) q = f (f b q) p) : ∀ {l l' : List α}, l.Perm l' → ∀ b, l.foldl f b = l'.foldl f b := by
  intro l l' h
  induction h with
  | nil => intro b; rfl
  | cons a _ ih => intro b; exact ih _
  | swap a c l => intro b; simp only [List.foldl_cons]; rw [hf]
  | trans _ _ ih1 ih2 => intro b; exact (ih1 b).trans (ih2 b)
theorem valP_perm {C C' : List Ent} (h : C.Perm C') (x : Spot) : valP C x = valP C' x := foldl_perm (stepV_swap x) h none
theorem valP_snoc (C : List Ent) (p : Ent) (x : Spot) : valP (C ++ [p]) x = stepV x (valP C x) p := by simp [valP]
/-- put a pair to the others: in its place, or last -/
def insP : List Ent → Ent → List Ent
  | [], p => [p]
  | q :: r, p => if q.1 = p.1 then (q.1, mgP q.2 p.2) :: r else q :: insP r p
abbrev Nd {α β : Type} (L : List (α × β)) : Prop := L.Pairwise fun p q => p.1 ≠ q.1
theorem insP_keys {r : List Ent} {p q : Ent} (h : q ∈ insP r p) : q.1 = p.1 ∨ ∃ q' ∈ r, q'.1 = q.1 := by
  induction r with
  | nil => simp only [insP, List.mem_singleton] at h; exact .inl (by rw [h])
  | cons a r ih =>
    unfold insP at h
    split at h
    · rename_i e
      rcases List.mem_cons.1 h with rfl | h
      · exact .inl e
      · exact .inr ⟨q, List.mem_cons_of_mem _ h, rfl⟩
    · rcases List.mem_cons.1 h with rfl | h
      · exact .inr ⟨_, List.mem_cons_self, rfl⟩
      · rcases ih h with e | ⟨q', h1, h2⟩
        · exact .inl e
        · exact .inr ⟨q', List.mem_cons_of_mem _ h1, h2⟩
theorem insP_nd {r : List Ent} (h : Nd r) (p : Ent) : Nd (insP r p) := by
  induction r with
  | nil => exact List.pairwise_singleton _ _
  | cons a r ih =>
    obtain ⟨h1, h2⟩ := List.pairwise_cons.1 h
    unfold insP
    split
    · exact List.pairwise_cons.2 ⟨h1, h2⟩
    · rename_i e
      refine List.pairwise_cons.2 ⟨fun q hq => ?_, ih h2⟩
      rcases insP_keys hq with e' | ⟨q', m, e'⟩
      · rw [e']; exact e
      · rw [← e']; exact h1 q' m
open Classical in
theorem getA_cons {α β : Type} (a : α × β) (r : List (α × β)) (x : α) : getA (a :: r) x = if a.1 = x then some a.2 else getA r x := by
  unfold getA
  by_cases e : a.1 = x
  · rw [List.find?_cons_of_pos (by simpa using e), if_pos e]; rfl
  · rw [List.find?_cons_of_neg (by simpa using e), if_neg e]
theorem getA_nil {α β : Type} (x : α) : getA ([] : List (α × β)) x = none := rfl
theorem insP_get (r : List Ent) (p : Ent) (x : Spot) : getA (insP r p) x = stepV x (getA r x) p := by
  induction r with
  | nil =>
    unfold insP
    rw [getA_cons, getA_nil, stepV]
    by_cases e : p.1 = x
    · rw [if_pos e, if_pos e]; rfl
    · rw [if_neg e, if_neg e]
  | cons a r ih =>
    unfold insP
    by_cases e : a.1 = p.1
    · rw [if_pos e, getA_cons, getA_cons, stepV]
      by_cases e2 : a.1 = x
      · rw [if_pos e2, if_pos (by rw [← e]; exact e2), if_pos e2]; rfl
      · rw [if_neg e2, if_neg (by rw [← e]; exact e2), if_neg e2]
    · rw [if_neg e, getA_cons, ih, getA_cons]
      by_cases e2 : a.1 = x
      · rw [if_pos e2, if_pos e2, stepV, if_neg (fun q => e (e2.trans q.symm))]
      · rw [if_neg e2, if_neg e2]
theorem foldIns_get (C : List Ent) : ∀ (r : List Ent) (x : Spot), getA (C.foldl insP r) x = C.foldl (stepV x) (getA r x) := by
  induction C with
  | nil => intro r x; rfl
  | cons p C ih => intro r x; simp only [List.foldl_cons]; rw [ih, insP_get]
theorem foldIns_nd (C : List Ent) : ∀ {r : List Ent}, Nd r → Nd (C.foldl insP r) := by
  induction C with
  | nil => intro r h; exact h
  | cons p C ih => intro r h; exact ih (insP_nd h p)
def nextP (k : Nat → Int) (most : Int) (L : List Ent) : List Ent := (L.flatMap (con k most)).foldl insP []
theorem nextP_nd (k : Nat → Int) (most : Int) (L : List Ent) : Nd (nextP k most L) := foldIns_nd _ List.Pairwise.nil
theorem nextP_get (k : Nat → Int) (most : Int) (L : List Ent) (x : Spot) : getA (nextP k most L) x = valP (L.flatMap (con k most)) x := foldIns_get _ [] x
def levP (k : Nat → Int) (most : Int) (s : Sd) : Nat → List Ent
  | 0 => [((s, 0), (1, 0))]
  | n + 1 => nextP k most (levP k most s n)
theorem perm_of_mem {α : Type} : ∀ {l l' : List α}, l.Nodup → l'.Nodup → (∀ p, p ∈ l ↔ p ∈ l') → l.Perm l'
  | [], l', _, _, h => by
    cases l' with
    | nil => exact List.Perm.refl _
    | cons a r => exact absurd ((h a).2 List.mem_cons_self) (List.not_mem_nil)
  | a :: r, l', h1, h2, h => by
    obtain ⟨a1, a2⟩ := List.nodup_cons.1 h1
    obtain ⟨s, t, rfl⟩ := List.append_of_mem ((h a).1 List.mem_cons_self)
    have hp : (s ++ a :: t).Perm (a :: (s ++ t)) := List.perm_middle
    have h3 := hp.nodup_iff.1 h2
    obtain ⟨b1, b2⟩ := List.nodup_cons.1 h3
    refine (List.Perm.cons a (perm_of_mem a2 b2 (fun p => ⟨fun hm => ?_, fun hm => ?_⟩))).trans hp.symm
    · have := hp.mem_iff.1 ((h p).1 (List.mem_cons_of_mem _ hm))
      rcases List.mem_cons.1 this with rfl | this
      · exact absurd hm a1
      · exact this
    · have := (h p).2 (hp.mem_iff.2 (List.mem_cons_of_mem _ hm))
      rcases List.mem_cons.1 this with rfl | this
      · exact absurd hm b1
      · exact this
theorem nd_nodup {α β : Type} {L : List (α × β)} (h : Nd L) : L.Nodup := List.Pairwise.imp (fun {a b} hab e => hab (by rw [e])) h
theorem perm_of_get {α β : Type} {L L' : List (α × β)} (h : Nd L) (h' : Nd L') (e : ∀ x, getA L x = getA L' x) : L.Perm L' :=
  perm_of_mem (nd_nodup h) (nd_nodup h') (fun p => ⟨fun hm => getA_some (e p.1 ▸ getA_mem h (x := p.1) (y := p.2) hm), fun hm => getA_some ((e p.1).symm ▸ getA_mem h' (x := p.1) (y := p.2) hm)⟩)
theorem next_perm {k : Nat → Int} {most : Int} {L L' M : List Ent} (hp : L.Perm L') (hM : Nd M) (hg : ∀ x, getA M x = valP (L.flatMap (con k most)) x) : M.Perm (nextP k most L') :=
  perm_of_get hM (nextP_nd k most L') (fun x => by rw [nextP_get, hg x]; exact valP_perm (hp.flatMap_right _) x)
theorem con1_len (k : Nat → Int) (most : Int) (e : Ent) (set : Int) : (con1 k most e set).length ≤ 1 := by unfold con1; split <;> simp
theorem flat_len {α β : Type} (f : α → List β) (n : Nat) (h : ∀ x, (f x).length ≤ n) : ∀ l : List α, (l.flatMap f).length ≤ n * l.length
  | [] => by simp
  | a :: r => by
    rw [List.flatMap_cons, List.length_append, List.length_cons, Nat.mul_succ]
    have := h a
    have := flat_len f n h r
    omega
theorem con_len (k : Nat → Int) (most : Int) (e : Ent) : (con k most e).length ≤ 16 := by
  have := flat_len (con1 k most e) 1 (con1_len k most e) (setsL k)
  have := setsL_len k
  unfold con
  omega
theorem insP_len (r : List Ent) (p : Ent) : (insP r p).length ≤ r.length + 1 := by
  induction r with
  | nil => simp [insP]
  | cons a r ih =>
    unfold insP
    split
    · simp
    · simp only [List.length_cons]; omega
theorem foldIns_len (C : List Ent) : ∀ r : List Ent, (C.foldl insP r).length ≤ r.length + C.length := by
  induction C with
  | nil => intro r; simp
  | cons p C ih => intro r; simp only [List.foldl_cons, List.length_cons]; have := ih (insP r p); have := insP_len r p; omega
theorem nextP_len (k : Nat → Int) (most : Int) (L : List Ent) : (nextP k most L).length ≤ 16 * L.length := by
  have := foldIns_len (L.flatMap (con k most)) []
  have := flat_len (con k most) 16 (con_len k most) L
  unfold nextP
  simp only [List.length_nil] at *
  omega
theorem levP_len (k : Nat → Int) (most : Int) (s : Sd) : ∀ n, (levP k most s n).length ≤ 16 ^ n
  | 0 => by simp [levP]
  | n + 1 => by
    have := levP_len k most s n
    have := nextP_len k most (levP k most s n)
    rw [levP, Nat.pow_succ]
    omega
/-- where the plans lead: sands of the kit, times within bounds -/
structure InK (k : Nat → Int) (most : Int) (L : List Ent) : Prop where
  all : ∀ e ∈ L, Sand k (fn4 e.1.1) ∧ 0 ≤ e.1.2 ∧ e.1.2 ≤ most
theorem sand_tup {k g : Nat → Int} (h : Sand k g) : Sand k (fn4 (tup4 g)) :=
  ⟨fun i hi => by obtain rfl | rfl | rfl | rfl : i = 0 ∨ i = 1 ∨ i = 2 ∨ i = 3 := by omega
                  all_goals exact h.lo _ (by omega),
   fun i hi => by obtain rfl | rfl | rfl | rfl : i = 0 ∨ i = 1 ∨ i = 2 ∨ i = 3 := by omega
                  all_goals exact h.hi _ (by omega), h.top⟩
theorem con_in {k : Nat → Int} {most : Int} {L : List Ent} (h : InK k most L) : ∀ e ∈ L.flatMap (con k most), Sand k (fn4 e.1.1) ∧ 0 ≤ e.1.2 ∧ e.1.2 ≤ most := by
  intro e he
  obtain ⟨a, ha, he⟩ := List.mem_flatMap.1 he
  obtain ⟨set, hs, he⟩ := List.mem_flatMap.1 he
  obtain ⟨h1, h2, h3⟩ := h.all a ha
  unfold con1 goTo at he
  by_cases c : stepD k (fn4 a.1.1) set = 0 ∨ most < a.1.2 + stepD k (fn4 a.1.1) set
  · rw [if_pos c] at he
    exact absurd he List.not_mem_nil
  · rw [if_neg c] at he
    rw [List.mem_singleton.1 he]
    have hd := h1.stepD set
    have hst := h1.step set
    refine ⟨⟨fun i hi => ?_, fun i hi => ?_, hst.top⟩, by show 0 ≤ a.1.2 + _; omega, by show a.1.2 + _ ≤ most; omega⟩
    · obtain rfl | rfl | rfl | rfl : i = 0 ∨ i = 1 ∨ i = 2 ∨ i = 3 := by omega
      all_goals exact hst.lo _ (by omega)
    · obtain rfl | rfl | rfl | rfl : i = 0 ∨ i = 1 ∨ i = 2 ∨ i = 3 := by omega
      all_goals exact hst.hi _ (by omega)
theorem foldIns_in {k : Nat → Int} {most : Int} : ∀ (C : List Ent) {r : List Ent}, InK k most r → (∀ e ∈ C, Sand k (fn4 e.1.1) ∧ 0 ≤ e.1.2 ∧ e.1.2 ≤ most) → InK k most (C.foldl insP r)
  | [], r, h, _ => h
  | p :: C, r, h, hC => foldIns_in C ⟨fun e he => by
      rcases insP_keys he with e1 | ⟨q, m, e1⟩
      · rw [e1]; exact hC p List.mem_cons_self
      · rw [← e1]; exact h.all q m⟩ (fun e he => hC e (List.mem_cons_of_mem _ he))
theorem levP_in {k : Nat → Int} {most : Int} {s : Sd} (h : Sand k (fn4 s)) (hm : 0 ≤ most) : ∀ n, InK k most (levP k most s n)
  | 0 => ⟨fun e he => by rw [List.mem_singleton.1 he]; exact ⟨h, Int.le_refl 0, hm⟩⟩
  | n + 1 => foldIns_in _ ⟨fun e he => absurd he List.not_mem_nil⟩ (con_in (levP_in h hm n))
theorem wrap64_wrap (a : Int) : wrap64 (wrap64 a) = wrap64 a := by unfold wrap64; omega
theorem foldIns_plans : ∀ (C : List Ent) {r : List Ent}, (∀ e ∈ r, wrap64 e.2.1 = e.2.1) → (∀ e ∈ C, wrap64 e.2.1 = e.2.1) → ∀ e ∈ C.foldl insP r, wrap64 e.2.1 = e.2.1
  | [], r, h, _ => h
  | p :: C, r, h, hC => foldIns_plans C (fun e he => by
      have key : ∀ {r : List Ent}, (∀ e ∈ r, wrap64 e.2.1 = e.2.1) → ∀ e ∈ insP r p, wrap64 e.2.1 = e.2.1 := by
        intro r hr
        induction r with
        | nil => intro e he; rw [List.mem_singleton.1 he]; exact hC p List.mem_cons_self
        | cons a r ih =>
          intro e he
          unfold insP at he
          split at he
          · rcases List.mem_cons.1 he with rfl | he
            · exact wrap64_wrap _
            · exact hr e (List.mem_cons_of_mem _ he)
          · rcases List.mem_cons.1 he with rfl | he
            · exact hr _ List.mem_cons_self
            · exact ih (fun e he => hr e (List.mem_cons_of_mem _ he)) e he
      exact key h e he) (fun e he => hC e (List.mem_cons_of_mem _ he))
theorem levP_plans (k : Nat → Int) (most : Int) (s : Sd) : ∀ n, ∀ e ∈ levP k most s n, wrap64 e.2.1 = e.2.1
  | 0 => fun e he => by rw [List.mem_singleton.1 he]; show wrap64 1 = 1; unfold wrap64; omega
  | n + 1 => foldIns_plans _ (fun e he => absurd he List.not_mem_nil) (fun e he => by
      obtain ⟨a, ha, he⟩ := List.mem_flatMap.1 he
      obtain ⟨set, hs, he⟩ := List.mem_flatMap.1 he
      unfold con1 at he
      split at he
      · exact absurd he List.not_mem_nil
      · rw [List.mem_singleton.1 he]
        exact levP_plans k most s n a ha)
/-- what a map holds that holds what the contributions come to -/
theorem get_len {C M : List Ent} (hM : Nd M) (hg : ∀ x, getA M x = valP C x) : M.length ≤ C.length := by
  have hp : M.Perm (C.foldl insP []) := perm_of_get hM (foldIns_nd _ List.Pairwise.nil) (fun x => by rw [hg x]; exact (foldIns_get C [] x).symm)
  rw [hp.length_eq]
  have := foldIns_len C []
  simpa using this
theorem val_none {M : List Ent} {C : List Ent} (hg : ∀ x, getA M x = valP C x) {p : Ent} (hn : getA M p.1 = none) (x : Spot) : getA (putA M p.1 p.2) x = valP (C ++ [p]) x := by
  rw [valP_snoc, getA_put, stepV, ← hg x]
  by_cases e : p.1 = x
  · subst e; rw [if_pos rfl, if_pos rfl, hn]; rfl
  · rw [if_neg (fun q => e q.symm), if_neg e]
theorem val_some {M : List Ent} {C : List Ent} (hg : ∀ x, getA M x = valP C x) {p : Ent} {o : Int × Int} (hn : getA M p.1 = some o) (x : Spot) : getA (putA M p.1 (mgP o p.2)) x = valP (C ++ [p]) x := by
  rw [valP_snoc, getA_put, stepV, ← hg x]
  by_cases e : p.1 = x
  · subst e; rw [if_pos rfl, if_pos rfl, hn]; rfl
  · rw [if_neg (fun q => e q.symm), if_neg e]
theorem take_con (k : Nat → Int) (most : Int) (e : Ent) {j : Nat} {set : Int} (h : (setsL k)[j]? = some set) : ((setsL k).take (j + 1)).flatMap (con1 k most e) = ((setsL k).take j).flatMap (con1 k most e) ++ con1 k most e set := by
  obtain ⟨hl, rfl⟩ := List.getElem?_eq_some_iff.1 h
  rw [List.take_succ_eq_append_getElem hl, List.flatMap_append]
  simp
theorem con1_none {k : Nat → Int} {most : Int} {e : Ent} {set : Int} (h : stepD k (fn4 e.1.1) set = 0 ∨ most < e.1.2 + stepD k (fn4 e.1.1) set) : con1 k most e set = [] := by
  unfold con1 goTo; rw [if_pos h]
theorem con1_some {k : Nat → Int} {most : Int} {e : Ent} {set : Int} (h : ¬ (stepD k (fn4 e.1.1) set = 0 ∨ most < e.1.2 + stepD k (fn4 e.1.1) set)) : con1 k most e set = [((tup4 (stepS k (fn4 e.1.1) set), e.1.2 + stepD k (fn4 e.1.1) set), (e.2.1, e.2.2 + ones set))] := by
  unfold con1 goTo; rw [if_neg h]
/-- turns stay small -/
theorem foldIns_turns {b : Int} : ∀ (C : List Ent) {r : List Ent}, (∀ e ∈ r, 0 ≤ e.2.2 ∧ e.2.2 ≤ b) → (∀ e ∈ C, 0 ≤ e.2.2 ∧ e.2.2 ≤ b) → ∀ e ∈ C.foldl insP r, 0 ≤ e.2.2 ∧ e.2.2 ≤ b
  | [], r, h, _ => h
  | p :: C, r, h, hC => foldIns_turns C (fun e he => by
      have key : ∀ {r : List Ent}, (∀ e ∈ r, 0 ≤ e.2.2 ∧ e.2.2 ≤ b) → ∀ e ∈ insP r p, 0 ≤ e.2.2 ∧ e.2.2 ≤ b := by
        intro r hr
        induction r with
        | nil => intro e he; rw [List.mem_singleton.1 he]; exact hC p List.mem_cons_self
        | cons a r ih =>
          intro e he
          unfold insP at he
          have ha := hr a List.mem_cons_self
          have hp := hC p List.mem_cons_self
          split at he
          · rcases List.mem_cons.1 he with rfl | he
            · simp only [mgP]; omega
            · exact hr e (List.mem_cons_of_mem _ he)
          · rcases List.mem_cons.1 he with rfl | he
            · exact ha
            · exact ih (fun e he => hr e (List.mem_cons_of_mem _ he)) e he
      exact key h e he) (fun e he => hC e (List.mem_cons_of_mem _ he))
theorem con_turns {k : Nat → Int} {most b : Int} {L : List Ent} (h : ∀ e ∈ L, 0 ≤ e.2.2 ∧ e.2.2 ≤ b) : ∀ e ∈ L.flatMap (con k most), 0 ≤ e.2.2 ∧ e.2.2 ≤ b + 4 := by
  intro e he
  obtain ⟨a, ha, he⟩ := List.mem_flatMap.1 he
  obtain ⟨set, hs, he⟩ := List.mem_flatMap.1 he
  have h1 := h a ha
  have h2 := ones_b set
  unfold con1 at he
  split at he
  · exact absurd he List.not_mem_nil
  · rw [List.mem_singleton.1 he]
    show 0 ≤ a.2.2 + ones set ∧ a.2.2 + ones set ≤ b + 4
    omega
theorem levP_turns (k : Nat → Int) (most : Int) (s : Sd) : ∀ n, ∀ e ∈ levP k most s n, 0 ≤ e.2.2 ∧ e.2.2 ≤ 4 * (n : Int)
  | 0 => fun e he => by rw [List.mem_singleton.1 he]; simp
  | n + 1 => by
    have := foldIns_turns (b := 4 * ((n + 1 : Nat) : Int)) ((levP k most s n).flatMap (con k most)) (r := []) (fun e he => absurd he List.not_mem_nil) (fun e he => by
      have := con_turns (b := 4 * (n : Int)) (levP_turns k most s n) e he
      omega)
    exact this
end Go.Proofs.Ytlhodfjdmafapaa
