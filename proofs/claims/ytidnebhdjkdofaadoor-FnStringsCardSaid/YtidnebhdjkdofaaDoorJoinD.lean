/- Contract of strings.Join (Door seat). No statement of the seat is proved here. -/
import Derived.Test.YtidnebhdjkdofaaDoorNum
import Derived.Test.YtidnebhdjkdofaaDoorShelfJ
import Derived.Test.YtidnebhdjkdofaaDoorWWords
import Derived.Test.YtidnebhdjkdofaaDoorWLast
import Derived.Lib.Join
namespace Go.Proofs.YtidnebhdjkdofaaDoor
open Go.RowKit Go.Proofs.YtidnebhdjkdofaaDoorW.PrintWords Go.Proofs.YtidnebhdjkdofaaDoorW.PrintLast
set_option linter.unusedVariables false
set_option linter.unusedSimpArgs false
/-- the parts with the separator between them, as both sides build it -/
def joinGo (sep : ByteArray) : List ByteArray → ByteArray → ByteArray
  | [], acc => acc
  | p :: r, acc => joinGo sep r ((acc ++ sep) ++ p)
def joinB (sep : ByteArray) : List ByteArray → ByteArray
  | [] => ⟨#[]⟩
  | p :: r => joinGo sep r p
theorem joinGo_list (sep : ByteArray) : ∀ (r : List ByteArray) (acc : ByteArray), (joinGo sep r acc).data.toList = acc.data.toList ++ Lib.joinTail sep.data.toList (r.map (·.data.toList))
  | [], acc => by simp [joinGo, Lib.joinTail]
  | p :: r, acc => by
    rw [joinGo, joinGo_list sep r, bytes_append, bytes_append]
    simp [Lib.joinTail, List.append_assoc]
theorem joinB_list (sep : ByteArray) (l : List ByteArray) : Lib.join (l.map (·.data.toList)) sep.data.toList = (joinB sep l).data.toList := by
  cases l with
  | nil => rfl
  | cons p r => rw [joinB, joinGo_list, List.map_cons, Lib.join_cons]
theorem bytes_lenJ (b : ByteArray) : b.data.toList.length = b.size := Array.length_toList
def xJoin.f (l0 : List ByteArray) (a1 : ByteArray) : Option ByteArray :=
  if l0.length ≤ 140737488355328 ∧ (joinB a1 l0).size ≤ 140737488355328 then some (joinB a1 l0) else none
theorem xJoin.calls (A0 : Option Addr) (c0 : Nat) (l0 : List ByteArray) (a1 : ByteArray) (r : ByteArray) (w : World) (hr0 : Kd.C Kd.string w A0 l0.length l0) (hc0 : l0.length ≤ c0) (h : xJoin.f l0 a1 = some r) :
    Calls Tryd.prog 59 #[.slice A0 l0.length c0, .string a1] w fun e w' => e = .returned (.string r) ∧ Below w.heap.size w w' := by
  unfold xJoin.f at h
  by_cases g : l0.length ≤ 140737488355328 ∧ (joinB a1 l0).size ≤ 140737488355328
  · rw [if_pos g] at h
    obtain rfl := Option.some.inj h
    by_cases z : l0 = []
    · subst z
      exact (Tryd.strings_Join_none A0 c0 a1 w).mono fun e w' ⟨he, hw⟩ => ⟨he, by rw [hw]; exact Below.refl _ _⟩
    · have hp : 0 < l0.length := List.length_pos_iff.2 z
      obtain ⟨ad, rfl, hx⟩ := Kd.at_string hr0 0 (by omega) (by omega)
      have hs : ad.spot = none := by
        unfold World.cell? at hx
        simp only [Int.toNat_zero, Addr.add, if_pos] at hx
        split at hx
        · split at hx
          · cases hx
          · rename_i q; simpa using q
        · cases hx
      obtain ⟨bk, o, sp⟩ := ad
      simp only at hs
      subst hs
      have cells : ∀ (j : Nat) x, l0[j]? = some x → w.cell? ⟨bk, o + j, none⟩ = some (.string x) := by
        intro j x hj
        have hl : j < l0.length := (List.getElem?_eq_some_iff.1 hj).1
        obtain ⟨ad', e', hy⟩ := Kd.at_string hr0 (j : Int) (by omega) (by omega)
        obtain rfl := Option.some.inj e'
        have : (Addr.add ⟨bk, o, none⟩ ((j : Int)).toNat) = ⟨bk, o + j, none⟩ := by
          simp only [Int.toNat_natCast, Addr.add]
          split
          · rename_i q; subst q; rfl
          · rfl
        rw [this] at hy
        rw [hy]
        simp [rdOf, List.getD_eq_getElem?_getD, hj]
      have hb : bk < w.heap.size := World.block_lt_of_cell? _ _ hx
      have J := Tryd.strings_Join bk o c0 l0 a1 w cells hb g.1 hc0 (by rw [joinB_list, bytes_lenJ]; exact g.2)
      rw [joinB_list, bytes_self] at J
      exact J
  · rw [if_neg g] at h; cases h
end Go.Proofs.YtidnebhdjkdofaaDoor
