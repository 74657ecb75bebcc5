/- From a law's contract over contents to what its row asks. -/
import Derived.Test.YtcmldokgjbmbdaaE
import Derived.Test.YtcmldokgjbmbdaaO
namespace Go.Proofs.Ytcmldokgjbmbdaa
open Go Go.AM Go.RowKit
set_option linter.unusedVariables false
set_option linter.unusedSimpArgs false

theorem own : ownKnob Try.prog.godebug = none := by kernel_rfl
theorem laidOut : laidOutB Try.prog = true := by kernel_rfl
theorem law_true {f : FuncId} {args : List CV} (h : Pure Try.prog f args [.v (.bool true)]) (w : World) (vs : Array Value) (hn : vs.toList.length = args.length) (hr : ∀ (j : Nat) (y : CV), args[j]? = some y → Rep w L0 (vs.toList.getD j undef) y) :
    Calls Try.prog f vs w fun e w' => e = .returned (.bool true) ∧ Below w.heap.size w w' := by
  refine (h.2 w L0 vs.toList hn hr (fun b hb => hb.elim)).mono fun e w' ⟨v, he, hv, hk⟩ => ?_
  have hv : Rep w' L0 v (.v (.bool true)) := hv
  rw [hv.v_inv] at he
  exact ⟨he, hk.below⟩
end Go.Proofs.Ytcmldokgjbmbdaa
