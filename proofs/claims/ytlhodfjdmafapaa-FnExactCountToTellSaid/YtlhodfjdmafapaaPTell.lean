/- What is told of the levels: plain words and laws. No statement of the seat is proved here. -/
import Derived.Test.YtlhodfjdmafapaaPLev
namespace Go.Proofs.Ytlhodfjdmafapaa
open Go.RowKit
set_option linter.unusedVariables false
set_option linter.unusedSimpArgs false
structure Best where
  sets : Int
  turns : Int
  c : Nat → Int
def upd (c : Nat → Int) (n : Nat) (v : Int) : Nat → Int := fun j => if j = n then v else c j
def tmin (u t : Int) : Int := if u < 0 then t else if t < u then t else u
def tellStep (time : Int) (n : Nat) (B : Best) (e : Ent) : Best :=
  if e.1.2 = time then ⟨if B.sets < 0 then (n : Int) else B.sets, tmin B.turns e.2.2, upd B.c n (wrap64 (B.c n + e.2.1))⟩ else B
def tellTo (k : Nat → Int) (s : Sd) (time : Int) : Nat → Best
  | 0 => ⟨-1, -1, fun _ => 0⟩
  | n + 1 => (levP k time s n).foldl (tellStep time n) (tellTo k s time n)
theorem foldl_permQ {α β : Type} {f : β → α → β} {Q : α → Prop} (hf : ∀ b p q, Q p → Q q → f (f b p) q = f (f b q) p) {l l' : List α} (h : l.Perm l') : (∀ p ∈ l, Q p) → ∀ b, l.foldl f b = l'.foldl f b := by
  induction h with
  | nil => intro _ b; rfl
  | cons a _ ih => intro hq b; exact ih (fun p hp => hq p (List.mem_cons_of_mem _ hp)) _
  | swap a c l =>
    intro hq b
    simp only [List.foldl_cons]
    rw [hf b c a (hq c List.mem_cons_self) (hq a (List.mem_cons_of_mem _ List.mem_cons_self))]
  | trans h1 _ ih1 ih2 => intro hq b; exact (ih1 hq b).trans (ih2 (fun p hp => hq p (h1.mem_iff.2 hp)) b)
theorem tmin_swap {u a b : Int} (ha : 0 ≤ a) (hb : 0 ≤ b) : tmin (tmin u a) b = tmin (tmin u b) a := by
  unfold tmin
  split <;> split <;> split <;> (try split) <;> (try split) <;> omega
theorem upd_swap (c : Nat → Int) (n : Nat) (a b : Int) : upd (upd c n (wrap64 (c n + a))) n (wrap64 (upd c n (wrap64 (c n + a)) n + b)) = upd (upd c n (wrap64 (c n + b))) n (wrap64 (upd c n (wrap64 (c n + b)) n + a)) := by
  funext j
  unfold upd
  by_cases e : j = n
  · simp only [if_pos e, if_true]; exact wrap64_comm (c n) a b
  · simp only [if_neg e]
theorem tell_swap (time : Int) (n : Nat) (B : Best) (p q : Ent) (hp : 0 ≤ p.2.2) (hq : 0 ≤ q.2.2) : tellStep time n (tellStep time n B p) q = tellStep time n (tellStep time n B q) p := by
  unfold tellStep
  by_cases h1 : p.1.2 = time <;> by_cases h2 : q.1.2 = time <;> simp only [h1, h2, if_true, if_false]
  congr 1
  · exact tmin_swap hp hq
  · exact upd_swap B.c n p.2.1 q.2.1
theorem tell_perm {k : Nat → Int} {s : Sd} {time : Int} {n : Nat} {L : List Ent} (h : L.Perm (levP k time s n)) (B : Best) : L.foldl (tellStep time n) B = (levP k time s n).foldl (tellStep time n) B :=
  foldl_permQ (Q := fun e : Ent => 0 ≤ e.2.2) (fun b p q hp hq => tell_swap time n b p q hp hq) h (fun p hp => (levP_turns k time s n p (h.mem_iff.1 hp)).1) B
end Go.Proofs.Ytlhodfjdmafapaa
