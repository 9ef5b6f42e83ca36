/- For all codes FormatInt and ParseInt are inverse, AppendChecksum and VerifyChecksum too, and a changed byte is detected; the tables and the errors of strconv hold what the program's text lays (tied). -/
import Derived.Test.YtidnebhdjkdofaaDoorRowL
import Derived.Test.YtidnebhdjkdofaaDoorRowT
import Derived.Test.YtidnebhdjkdofaaDoorRowB
import Derived.Test.YtidnebhdjkdofaaDoorStrW
import Derived.Test.YtidnebhdjkdofaaDoorCards
import Derived.Test.YtidnebhdjkdofaaDoorTie
import Derived.SevenTiedAt
import Derived.JoinedCond
namespace Go.Proofs.YtidnebhdjkdofaaDoor
namespace fnStrings
open Go.ChangeShapes Go.WideShapes Go.ChangeAt Go.RowKit Go.Proofs.YtidnebhdjkdofaaDoorW.PrintWords
set_option linter.unusedVariables false
/-- the cells of a datum that is a row of numbers -/
def cellsOfData : DataW Unit → Array Value
  | .agg ds => (ds.map fun d => match d with | .lit (.int k n) => Value.int k n | _ => undef).toArray
  | _ => #[]
noncomputable def low : Nat := (World.holding Tryd.prog default ⟨#[], #[], []⟩).heap.size
noncomputable def laidWorld (os : Os) : World :=
  let w0 := World.holding Tryd.prog os ⟨#[.cells #[.string ⟨#[118, 97, 108, 117, 101, 32, 111, 117, 116, 32, 111, 102, 32, 114, 97, 110, 103, 101]⟩] 128, .cells #[.string ⟨#[105, 110, 118, 97, 108, 105, 100, 32, 115, 121, 110, 116, 97, 120]⟩] 128], #[], []⟩
  let put (h : Array Obj) (g : Nat) (cs : Array Value) : Array Obj := h.modify g fun
    | .cells _ t frozen => .cells cs t frozen
    | o => o
  let h1 := put w0.heap 3 (cellsOfData Rows.laid_internal_strconv_uint64pow10)
  let h2 := put h1 6 (cellsOfData Rows.laid_math_bits_deBruijn32tab)
  let h3 := put h2 7 (cellsOfData Rows.laid_math_bits_deBruijn64tab)
  let h4 := put h3 2 #[.iface 126 (.pointer (some ⟨low, 0, none⟩))]
  let h5 := put h4 1 #[.iface 126 (.pointer (some ⟨low + 1, 0, none⟩))]
  { w0 with heap := h5 }
theorem laid_met (os : Os) (args : Array Value) : laidMet Tryd.prog Rows.fnStringsRow.laid ((laidWorld os).forCall (fun _ _ => 0) ⟨#[], args, []⟩).memory :=
  laidMet_of_run' 8 (by kernel_rfl) (by kernel_rfl)
theorem witness_row (os : Os) {H : Type} (enc : TypeId × Value → H) :
    (OpenSpec.ofChange Rows.fnStringsSpec).preRow enc Tryd.prog Tryd.f9 Rows.fnStringsRow.domain false Rows.fnStringsRow.laid ((laidWorld os).forCall (fun _ _ => 0) ⟨#[], #[.slice none 0 0], []⟩).memory #[.slice none 0 0] := by
  have hw : (DataW.whole enc Tryd.prog ((laidWorld os).forCall (fun _ _ => 0) ⟨#[], #[.slice none 0 0], []⟩).memory Tryd.f9.params.toList Rows.fnStringsSpec.vars false #[Value.slice none 0 0].toList 8).map (fun x => (x.1, x.2.1)) =
      some ([.nil], []) := by kernel_rfl
  obtain ⟨⟨x1, x2, x3⟩, hx, hx1⟩ := Option.map_eq_some_iff.1 hw
  simp only [Prod.mk.injEq] at hx1
  obtain ⟨rfl, rfl⟩ := hx1
  exact OpenSpec.preRow_of_cond 8 hx (by kernel_rfl) (fun k hk => by cases hk) (by kernel_rfl) (laid_met os _)
set_option maxRecDepth 100000 in
theorem lifted (os : Os) (started : os.Started) (H : Type) (enc : TypeId × Value → H) (F : Stop.Interp) :
    ReturnsInHanded {} Tryd.checked os 9 .any ((OpenSpec.ofChange Rows.fnStringsSpec).preRow enc Tryd.prog Tryd.f9 Rows.fnStringsRow.domain false Rows.fnStringsRow.laid) (((OpenSpec.ofChange Rows.fnStringsSpec).at F).post enc Tryd.prog Tryd.f9 false true false false) :=
  law_lifted_row started own laidOut (by kernel_rfl) Tryd.func9 rfl
    (by intro ds h; match ds, h with | [_], _ => exact ⟨rfl, rfl, rfl⟩) (by kernel_rfl) rfl Tryd.underlying4
    (witness_row_at (enc := enc) (C := Tryd.checked) false (laidWorld os) #[.slice none 0 0] rfl (by kernel_rfl) (by kernel_rfl) (by kernel_rfl) (witness_row os enc))
    (fun W base args ds p hsz hval hA hlt hL hSh => by
      obtain ⟨v0, rfl⟩ := args1 hsz
      obtain ⟨A, cap, l, rfl, hC, hcap, hb⟩ := open_bytes_arg (j := 0) hA rfl rfl Tryd.underlying33 Tryd.underlying5 (by kernel_rfl) (hval 0 _ _ rfl rfl)
      have hT : Lib.TabIs Tryd.prog W "internal/strconv.uint64pow10" .u64 Lib.pow10Tab :=
        tabIs_of_reads (g := 3) (t := 119) (e := 64) (by kernel_rfl) (by kernel_rfl) Tryd.underlying119 Tryd.underlying64 (by kernel_rfl) (by kernel_rfl) (Lib.laidMet.reads hL (.tail _ (.tail _ (.head _))))
      exact lawStrAll l hb A cap W hC hcap hT ⟨iface_of_reads (by kernel_rfl) (by kernel_rfl) Tryd.underlying72 (Lib.laidMet.reads hL (.tail _ (.tail _ (.tail _ (.tail _ (.head _)))))), iface_of_reads (by kernel_rfl) (by kernel_rfl) Tryd.underlying72 (Lib.laidMet.reads hL (.tail _ (.tail _ (.tail _ (.head _)))))⟩ (ml_shaped hSh))
set_option maxRecDepth 100000 in
theorem over : Rows.fnStringsRow.holds Tryd.pinned (OpenSpec.ofChange Rows.fnStringsSpec) :=
  OpenClaim.holds_of_cond 9 Tryd.f9 rfl rfl rfl rfl rfl rfl rfl ⟨rfl, rfl, rfl, rfl, rfl⟩ rfl rfl rfl rfl rfl (by kernel_rfl) Tryd.func9 (by kernel_rfl)
    (of_decide_eq_true (by kernel_rfl)) (by unfold Func.isWrapper; first | (rw [if_pos (by decide +kernel)]; kernel_rfl) | (rw [if_neg (by decide +kernel)]; exact ⟨rfl, rfl⟩))
    (fun os started H enc _ F => by rw [OpenClaim.pre_eq_preRow]; exact lifted os started H enc F)
end fnStrings
set_option maxRecDepth 100000 in
theorem fnStrings_card_holds : Rows.FnStringsCardSaid :=
  Claim7.holds_tied_plain_at .later [] [.data, .data, .data, .sentinel, .sentinel] true (true, "423a47c2079c61ede537aa0fb6cc3cb5b0a6e49664fa95484ab97150ccaf82bd") true
    fnStrings.over (fun _ h => by cases h) (by kernel_rfl) (fun _ h => by cases h) fnStrings_row_tie rfl ⟨rfl, rfl⟩ (by kernel_rfl) rfl
    (fun f fn hf hfn => by
      obtain rfl : f = 9 := Option.some.inj ((show (Tryd.prog).funcNamed "loop.example/g01187/laws.FnStrings" = some 9 by kernel_rfl).symm.trans hf) |>.symm
      obtain rfl : fn = Tryd.f9 := (Option.some.inj (Tryd.func9.symm.trans hfn)).symm
      exact ⟨by kernel_rfl, fun j t ht => by
        rw [show Tryd.f9.params = #[33] from rfl] at ht
        have h3 : t = 33 := by
          rcases j with _ | j
          · simpa using ht.symm
          · simp at ht
        subst h3
        exact (show (Tryd.prog).wantsStandIn 33 = false by kernel_rfl)⟩)
    (by kernel_rfl)
end Go.Proofs.YtidnebhdjkdofaaDoor
#print axioms Go.Proofs.YtidnebhdjkdofaaDoor.fnStrings_card_holds
