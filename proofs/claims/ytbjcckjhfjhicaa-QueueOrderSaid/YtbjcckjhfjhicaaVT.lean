/- The types of api.Value in this seat's program. -/
import Derived.Test.YtbjcckjhfjhicaaT
namespace Go.Proofs.Ytbjcckjhfjhicaa
open Go Go.AM Go.RowKit
set_option linter.unusedVariables false
def zeroV : Value := .agg #[.int .i64 0, .int .i64 0, .float .f64 0, .string ⟨#[]⟩, .slice none 0 0]
def vFs : Array Field := match td34.desc with | .struct fs => fs | _ => #[]
theorem vT : VTypes Try.prog 34 22 2 3 32 9 vFs := 
  { v := Try.underlying34, f0 := rfl, f1 := rfl, f2 := rfl, f3 := rfl, f4 := rfl, cv := by kernel_rfl, cn := by kernel_rfl, ci := by kernel_rfl, cf := by kernel_rfl, cs := by kernel_rfl, cl := by kernel_rfl,
    l := Try.underlying22, n := Try.underlying3, i := Try.underlying2, f := Try.underlying32, s := Try.underlying9 }
end Go.Proofs.Ytbjcckjhfjhicaa
