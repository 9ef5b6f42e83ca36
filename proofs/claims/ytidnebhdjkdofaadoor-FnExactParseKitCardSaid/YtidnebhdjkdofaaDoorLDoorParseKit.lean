/- For all strings ParseKit of the program and of the reference answer alike; the tables of strconv and unicode/utf8 and the errors of strconv hold what the program's text lays (tied). -/
import Derived.Test.YtidnebhdjkdofaaDoorRowL
import Derived.Test.YtidnebhdjkdofaaDoorRowT
import Derived.Test.YtidnebhdjkdofaaDoorPKit
import Derived.Test.YtidnebhdjkdofaaDoorCards
import Derived.Test.YtidnebhdjkdofaaDoorTie
import Derived.SevenTiedAt
import Derived.JoinedCond
namespace Go.Proofs.YtidnebhdjkdofaaDoor
namespace fnExactParseKit
open Go.ChangeShapes Go.WideShapes Go.ChangeAt Go.RowKit Go.Proofs.YtidnebhdjkdofaaDoorW.PrintWords
set_option linter.unusedVariables false
/-- the cells of a datum that is a row of numbers, or of rows of numbers -/
def cellsOfData : DataW Unit → Array Value
  | .agg ds => (ds.flatMap fun d => match d with | .lit (.int k n) => [Value.int k n] | .agg es => es.map (fun e => match e with | .lit (.int k n) => Value.int k n | _ => undef) | _ => []).toArray
  | _ => #[]
noncomputable def low : Nat := (World.holding Tryd.prog default ⟨#[], #[], []⟩).heap.size
noncomputable def laidWorld (os : Os) : World :=
  let w0 := World.holding Tryd.prog os ⟨#[.cells #[.string ⟨#[118, 97, 108, 117, 101, 32, 111, 117, 116, 32, 111, 102, 32, 114, 97, 110, 103, 101]⟩] 128, .cells #[.string ⟨#[105, 110, 118, 97, 108, 105, 100, 32, 115, 121, 110, 116, 97, 120]⟩] 128], #[], []⟩
  let put (h : Array Obj) (g : Nat) (cs : Array Value) : Array Obj := h.modify g fun
    | .cells _ t frozen => .cells cs t frozen
    | o => o
  let h1 := put w0.heap 3 (cellsOfData Rows.laid_internal_strconv_uint64pow10)
  let h2 := put h1 6 (cellsOfData Rows.laid_math_bits_deBruijn32tab)
  let h3 := put h2 7 (cellsOfData Rows.laid_math_bits_deBruijn64tab)
  let h4 := put h3 2 #[.iface 126 (.pointer (some ⟨low, 0, none⟩))]
  let h5 := put h4 1 #[.iface 126 (.pointer (some ⟨low + 1, 0, none⟩))]
  let h6 := put h5 5 (cellsOfData Rows.laid_unicode_utf8_acceptRanges)
  let h7 := put h6 4 (cellsOfData Rows.laid_unicode_utf8_first)
  { w0 with heap := h7 }
theorem laid_met (os : Os) (args : Array Value) : laidMet Tryd.prog Rows.fnExactParseKitRow.laid ((laidWorld os).forCall (fun _ _ => 0) ⟨#[], args, []⟩).memory :=
  laidMet_of_run' 8 (by kernel_rfl) (by kernel_rfl)
theorem witness_row (os : Os) {H : Type} (enc : TypeId × Value → H) :
    (OpenSpec.ofChange Rows.fnExactParseKitSpec).preRow enc Tryd.prog Tryd.f11 Rows.fnExactParseKitRow.domain false Rows.fnExactParseKitRow.laid ((laidWorld os).forCall (fun _ _ => 0) ⟨#[], #[.string ⟨#[]⟩], []⟩).memory #[.string ⟨#[]⟩] := by
  have hw : (DataW.whole enc Tryd.prog ((laidWorld os).forCall (fun _ _ => 0) ⟨#[], #[.string ⟨#[]⟩], []⟩).memory Tryd.f11.params.toList Rows.fnExactParseKitSpec.vars false #[Value.string ⟨#[]⟩].toList 8).map (fun x => (x.1, x.2.1)) =
      some ([.lit (.string [])], []) := by kernel_rfl
  obtain ⟨⟨x1, x2, x3⟩, hx, hx1⟩ := Option.map_eq_some_iff.1 hw
  simp only [Prod.mk.injEq] at hx1
  obtain ⟨rfl, rfl⟩ := hx1
  exact OpenSpec.preRow_of_cond 8 hx (by kernel_rfl) (fun k hk => by cases hk) (by kernel_rfl) (laid_met os _)
set_option maxRecDepth 100000 in
theorem lifted (os : Os) (started : os.Started) (H : Type) (enc : TypeId × Value → H) (F : Stop.Interp) :
    ReturnsInHanded {} Tryd.checked os 11 .any ((OpenSpec.ofChange Rows.fnExactParseKitSpec).preRow enc Tryd.prog Tryd.f11 Rows.fnExactParseKitRow.domain false Rows.fnExactParseKitRow.laid) (((OpenSpec.ofChange Rows.fnExactParseKitSpec).at F).post enc Tryd.prog Tryd.f11 false true false false) :=
  law_lifted_row started own laidOut (by kernel_rfl) Tryd.func11 rfl
    (by intro ds h; match ds, h with | [_], _ => exact ⟨rfl, rfl, rfl⟩) (by kernel_rfl) rfl Tryd.underlying4
    (witness_row_at (enc := enc) (C := Tryd.checked) false (laidWorld os) #[.string ⟨#[]⟩] rfl (by kernel_rfl) (by kernel_rfl) (by kernel_rfl) (witness_row os enc))
    (fun W base args ds p hsz hval hA hlt hL hSh => by
      obtain ⟨v0, rfl⟩ := args1 hsz
      obtain ⟨x, rfl, _⟩ := open_str_arg (j := 0) hA rfl rfl Tryd.underlying9 (hval 0 _ _ rfl rfl)
      have hT : Lib.TabIs Tryd.prog W "internal/strconv.uint64pow10" .u64 Lib.pow10Tab :=
        tabIs_of_reads (g := 3) (t := 119) (e := 64) (by kernel_rfl) (by kernel_rfl) Tryd.underlying119 Tryd.underlying64 (by kernel_rfl) (by kernel_rfl) (Lib.laidMet.reads hL (.tail _ (.tail _ (.head _))))
      exact lawParseKit_any x W hT ⟨iface_of_reads (by kernel_rfl) (by kernel_rfl) Tryd.underlying72 (Lib.laidMet.reads hL (.tail _ (.tail _ (.tail _ (.tail _ (.tail _ (.head _))))))), iface_of_reads (by kernel_rfl) (by kernel_rfl) Tryd.underlying72 (Lib.laidMet.reads hL (.tail _ (.tail _ (.tail _ (.tail _ (.head _))))))⟩ (ml_shaped hSh))
set_option maxRecDepth 100000 in
theorem over : Rows.fnExactParseKitRow.holds Tryd.pinned (OpenSpec.ofChange Rows.fnExactParseKitSpec) :=
  OpenClaim.holds_of_cond 11 Tryd.f11 rfl rfl rfl rfl rfl rfl rfl ⟨rfl, rfl, rfl, rfl, rfl⟩ rfl rfl rfl rfl rfl (by kernel_rfl) Tryd.func11 (by kernel_rfl)
    (of_decide_eq_true (by kernel_rfl)) (by unfold Func.isWrapper; first | (rw [if_pos (by decide +kernel)]; kernel_rfl) | (rw [if_neg (by decide +kernel)]; exact ⟨rfl, rfl⟩))
    (fun os started H enc _ F => by rw [OpenClaim.pre_eq_preRow]; exact lifted os started H enc F)
end fnExactParseKit
set_option maxRecDepth 100000 in
theorem fnExactParseKit_card_holds : Rows.FnExactParseKitCardSaid :=
  Claim7.holds_tied_plain_at .later [] [.data, .data, .data, .data, .sentinel, .sentinel, .pinned] true (true, "423a47c2079c61ede537aa0fb6cc3cb5b0a6e49664fa95484ab97150ccaf82bd") true
    fnExactParseKit.over (fun _ h => by cases h) (by kernel_rfl) (fun _ h => by cases h) fnExactParseKit_row_tie rfl ⟨rfl, rfl⟩ (by kernel_rfl) rfl
    (fun f fn hf hfn => by
      obtain rfl : f = 11 := Option.some.inj ((show (Tryd.prog).funcNamed "loop.example/g01187/laws.FnExactParseKit" = some 11 by kernel_rfl).symm.trans hf) |>.symm
      obtain rfl : fn = Tryd.f11 := (Option.some.inj (Tryd.func11.symm.trans hfn)).symm
      exact ⟨by kernel_rfl, fun j t ht => by
        rw [show Tryd.f11.params = #[9] from rfl] at ht
        have h3 : t = 9 := by
          rcases j with _ | j
          · simpa using ht.symm
          · simp at ht
        subst h3
        exact (show (Tryd.prog).wantsStandIn 9 = false by kernel_rfl)⟩)
    (by kernel_rfl)
end Go.Proofs.YtidnebhdjkdofaaDoor
#print axioms Go.Proofs.YtidnebhdjkdofaaDoor.fnExactParseKit_card_holds
