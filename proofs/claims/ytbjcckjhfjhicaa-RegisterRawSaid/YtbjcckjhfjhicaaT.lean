/- From a law's contract over contents to what its row asks. -/
import Derived.Test.YtbjcckjhfjhicaaE
import Derived.Test.YtbjcckjhfjhicaaO
namespace Go.Proofs.Ytbjcckjhfjhicaa
open Go Go.AM Go.RowKit
set_option linter.unusedVariables false

theorem own : ownKnob Try.prog.godebug = none := by kernel_rfl
theorem laidOut : laidOutB Try.prog = true := by kernel_rfl
def zeroV : Value := .agg #[.int .i64 0, .int .i64 0, .float .f64 0, .string ⟨#[]⟩, .slice none 0 0]
def vFs : Array Field := match td34.desc with | .struct fs => fs | _ => #[]
theorem vT : VTypes Try.prog 34 22 2 3 32 9 vFs := 
  { v := Try.underlying34, f0 := rfl, f1 := rfl, f2 := rfl, f3 := rfl, f4 := rfl, cv := by kernel_rfl, cn := by kernel_rfl, ci := by kernel_rfl, cf := by kernel_rfl, cs := by kernel_rfl, cl := by kernel_rfl,
    l := Try.underlying22, n := Try.underlying3, i := Try.underlying2, f := Try.underlying32, s := Try.underlying9 }
theorem u8_of {a : Int} (h : (Lit.int .u8 a).wf = true) : ∃ k : Nat, a = k ∧ k < 256 := by
  have : 0 ≤ a ∧ a < 256 := by
    have e1 : IntKind.u8.min = 0 := rfl
    have e2 : IntKind.u8.max = 255 := rfl
    simp [Lit.wf, e1, e2] at h
    omega
  exact ⟨a.toNat, by omega, by omega⟩
theorem law_true {f : FuncId} {args : List CV} (h : Pure Try.prog f args [.v (.bool true)]) (w : World) (vs : Array Value) (hn : vs.toList.length = args.length) (hr : ∀ (j : Nat) (y : CV), args[j]? = some y → Rep w L0 (vs.toList.getD j undef) y) :
    Calls Try.prog f vs w fun e w' => e = .returned (.bool true) ∧ Below w.heap.size w w' := by
  refine (h.2 w L0 vs.toList hn hr (fun b hb => hb.elim)).mono fun e w' ⟨v, he, hv, hk⟩ => ?_
  have hv : Rep w' L0 v (.v (.bool true)) := hv
  rw [hv.v_inv] at he
  exact ⟨he, hk.below⟩
theorem reps1 {w : World} {a : Value} {x : CV} (ha : Rep w L0 a x) : ∀ (j : Nat) (z : CV), [x][j]? = some z → Rep w L0 ([a].getD j undef) z := fun j z hz => by
  match j with
  | 0 => simp at hz; subst hz; exact ha
  | j + 1 => simp at hz
theorem reps2 {w : World} {a b : Value} {x y : CV} (ha : Rep w L0 a x) (hb : Rep w L0 b y) : ∀ (j : Nat) (z : CV), [x, y][j]? = some z → Rep w L0 ([a, b].getD j undef) z := fun j z hz => by
  match j with
  | 0 => simp at hz; subst hz; exact ha
  | 1 => simp at hz; subst hz; exact hb
  | j + 2 => simp at hz
theorem reps3 {w : World} {a b c : Value} {x y z' : CV} (ha : Rep w L0 a x) (hb : Rep w L0 b y) (hc : Rep w L0 c z') : ∀ (j : Nat) (z : CV), [x, y, z'][j]? = some z → Rep w L0 ([a, b, c].getD j undef) z := fun j z hz => by
  match j with
  | 0 => simp at hz; subst hz; exact ha
  | 1 => simp at hz; subst hz; exact hb
  | 2 => simp at hz; subst hz; exact hc
  | j + 3 => simp at hz
end Go.Proofs.Ytbjcckjhfjhicaa
