/- The table of the types that are met, and the environment of this seat's program. Printed by gen_env.py of this repo. -/
import Derived.Test.YtbjcckjhfjhicaaProg
import Derived.Test.YtbjcckjhfjhicaaB2
import Derived.KernelRfl
namespace Go.Proofs.Ytbjcckjhfjhicaa
open Go Go.AM
set_option linter.unusedVariables false

def td2 : TD := { sz := 1, bytes := 8, zero := [Go.Value.int Go.IntKind.i64 0], desc := Go.TypeDesc.int Go.IntKind.i64 }
def td3 : TD := { sz := 1, bytes := 8, zero := [Go.Value.int Go.IntKind.i64 0], desc := Go.TypeDesc.int Go.IntKind.i64 }
def td4 : TD := { sz := 1, bytes := 1, zero := [Go.Value.bool false], desc := Go.TypeDesc.bool }
def td5 : TD := { sz := 1, bytes := 1, zero := [Go.Value.int Go.IntKind.u8 0], desc := Go.TypeDesc.int Go.IntKind.u8 }
def td9 : TD := { sz := 1, bytes := 16, zero := [Go.Value.string { data := #[] }], desc := Go.TypeDesc.string }
def td20 : TD := { sz := 1, bytes := 16, zero := [Go.Value.nilIface], desc := Go.TypeDesc.interface #[] }
def td22 : TD := { sz := 1, bytes := 24, zero := [Go.Value.slice none 0 0], desc := Go.TypeDesc.slice 34 }
def td26 : TD := { sz := 1, bytes := 24, zero := [Go.Value.slice none 0 0], desc := Go.TypeDesc.slice 9 }
def td28 : TD := { sz := 1, bytes := 8, zero := [Go.Value.int Go.IntKind.i64 0], desc := Go.TypeDesc.int Go.IntKind.i64 }
def td32 : TD := { sz := 1, bytes := 8, zero := [Go.Value.float Go.FloatKind.f64 0], desc := Go.TypeDesc.float Go.FloatKind.f64 }
def td33 : TD := { sz := 5, bytes := 64, zero := [Go.Value.int Go.IntKind.i64 0, Go.Value.int Go.IntKind.i64 0, Go.Value.float Go.FloatKind.f64 0, Go.Value.string { data := #[] }, Go.Value.slice none 0 0], desc := Go.TypeDesc.struct #[{ name := "Kind", type := 3, offset := 0, embedded := false, tag := "", pkgPath := "", byteOffset := 0 }, { name := "I", type := 2, offset := 1, embedded := false, tag := "", pkgPath := "", byteOffset := 8 }, { name := "F", type := 32, offset := 2, embedded := false, tag := "", pkgPath := "", byteOffset := 16 }, { name := "S", type := 9, offset := 3, embedded := false, tag := "", pkgPath := "", byteOffset := 24 }, { name := "L", type := 22, offset := 4, embedded := false, tag := "", pkgPath := "", byteOffset := 40 }] }
def td34 : TD := { sz := 5, bytes := 64, zero := [Go.Value.int Go.IntKind.i64 0, Go.Value.int Go.IntKind.i64 0, Go.Value.float Go.FloatKind.f64 0, Go.Value.string { data := #[] }, Go.Value.slice none 0 0], desc := Go.TypeDesc.struct #[{ name := "Kind", type := 3, offset := 0, embedded := false, tag := "", pkgPath := "", byteOffset := 0 }, { name := "I", type := 2, offset := 1, embedded := false, tag := "", pkgPath := "", byteOffset := 8 }, { name := "F", type := 32, offset := 2, embedded := false, tag := "", pkgPath := "", byteOffset := 16 }, { name := "S", type := 9, offset := 3, embedded := false, tag := "", pkgPath := "", byteOffset := 24 }, { name := "L", type := 22, offset := 4, embedded := false, tag := "", pkgPath := "", byteOffset := 40 }] }
def td35 : TD := { sz := 1, bytes := 8, zero := [Go.Value.nilFunc], desc := Go.TypeDesc.func #[34] #[4] false }
def td37 : TD := { sz := 1, bytes := 24, zero := [Go.Value.slice none 0 0], desc := Go.TypeDesc.slice 5 }
def td47 : TD := { sz := 1, bytes := 8, zero := [Go.Value.nilFunc], desc := Go.TypeDesc.func #[34, 34] #[4] false }
def td50 : TD := { sz := 1, bytes := 24, zero := [Go.Value.slice none 0 0], desc := Go.TypeDesc.slice 52 }
def td51 : TD := { sz := 1, bytes := 24, zero := [Go.Value.slice none 0 0], desc := Go.TypeDesc.slice 2 }
def td52 : TD := { sz := 1, bytes := 2, zero := [Go.Value.int Go.IntKind.i16 0], desc := Go.TypeDesc.int Go.IntKind.i16 }
def td57 : TD := { sz := 1, bytes := 24, zero := [Go.Value.slice none 0 0], desc := Go.TypeDesc.slice 61 }
def td60 : TD := { sz := 3, bytes := 56, zero := [Go.Value.string { data := #[] }, Go.Value.string { data := #[] }, Go.Value.slice none 0 0], desc := Go.TypeDesc.struct #[{ name := "Group", type := 9, offset := 0, embedded := false, tag := "", pkgPath := "", byteOffset := 0 }, { name := "Method", type := 9, offset := 1, embedded := false, tag := "", pkgPath := "", byteOffset := 16 }, { name := "Args", type := 22, offset := 2, embedded := false, tag := "", pkgPath := "", byteOffset := 32 }] }
def td61 : TD := { sz := 3, bytes := 56, zero := [Go.Value.string { data := #[] }, Go.Value.string { data := #[] }, Go.Value.slice none 0 0], desc := Go.TypeDesc.struct #[{ name := "Group", type := 9, offset := 0, embedded := false, tag := "", pkgPath := "", byteOffset := 0 }, { name := "Method", type := 9, offset := 1, embedded := false, tag := "", pkgPath := "", byteOffset := 16 }, { name := "Args", type := 22, offset := 2, embedded := false, tag := "", pkgPath := "", byteOffset := 32 }] }
def td63 : TD := { sz := 1, bytes := 24, zero := [Go.Value.slice none 0 0], desc := Go.TypeDesc.slice 65 }
def td64 : TD := { sz := 2, bytes := 32, zero := [Go.Value.int Go.IntKind.u8 0, Go.Value.slice none 0 0], desc := Go.TypeDesc.struct #[{ name := "M", type := 5, offset := 0, embedded := false, tag := "", pkgPath := "", byteOffset := 0 }, { name := "L", type := 22, offset := 1, embedded := false, tag := "", pkgPath := "", byteOffset := 8 }] }
def td65 : TD := { sz := 2, bytes := 32, zero := [Go.Value.int Go.IntKind.u8 0, Go.Value.slice none 0 0], desc := Go.TypeDesc.struct #[{ name := "M", type := 5, offset := 0, embedded := false, tag := "", pkgPath := "", byteOffset := 0 }, { name := "L", type := 22, offset := 1, embedded := false, tag := "", pkgPath := "", byteOffset := 8 }] }
def td78 : TD := { sz := 1, bytes := 24, zero := [Go.Value.slice none 0 0], desc := Go.TypeDesc.slice 79 }
def td79 : TD := { sz := 2, bytes := 32, zero := [Go.Value.int Go.IntKind.u8 0, Go.Value.slice none 0 0], desc := Go.TypeDesc.struct #[{ name := "M", type := 5, offset := 0, embedded := false, tag := "", pkgPath := "", byteOffset := 0 }, { name := "L", type := 22, offset := 1, embedded := false, tag := "", pkgPath := "", byteOffset := 8 }] }
def td81 : TD := { sz := 1, bytes := 24, zero := [Go.Value.slice none 0 0], desc := Go.TypeDesc.slice 32 }
def td85 : TD := { sz := 1, bytes := 24, zero := [Go.Value.slice none 0 0], desc := Go.TypeDesc.slice 86 }
def td86 : TD := { sz := 2, bytes := 32, zero := [Go.Value.int Go.IntKind.u8 0, Go.Value.slice none 0 0], desc := Go.TypeDesc.struct #[{ name := "M", type := 5, offset := 0, embedded := false, tag := "", pkgPath := "", byteOffset := 0 }, { name := "L", type := 22, offset := 1, embedded := false, tag := "", pkgPath := "", byteOffset := 8 }] }
def td88 : TD := { sz := 1, bytes := 24, zero := [Go.Value.slice none 0 0], desc := Go.TypeDesc.slice 91 }
def td90 : TD := { sz := 3, bytes := 40, zero := [Go.Value.string { data := #[] }, Go.Value.string { data := #[] }, Go.Value.bool false], desc := Go.TypeDesc.struct #[{ name := "name", type := 9, offset := 0, embedded := false, tag := "", pkgPath := "choir/choirref8", byteOffset := 0 }, { name := "takes", type := 9, offset := 1, embedded := false, tag := "", pkgPath := "choir/choirref8", byteOffset := 16 }, { name := "writes", type := 4, offset := 2, embedded := false, tag := "", pkgPath := "choir/choirref8", byteOffset := 32 }] }
def td91 : TD := { sz := 3, bytes := 40, zero := [Go.Value.string { data := #[] }, Go.Value.string { data := #[] }, Go.Value.bool false], desc := Go.TypeDesc.struct #[{ name := "name", type := 9, offset := 0, embedded := false, tag := "", pkgPath := "choir/choirref8", byteOffset := 0 }, { name := "takes", type := 9, offset := 1, embedded := false, tag := "", pkgPath := "choir/choirref8", byteOffset := 16 }, { name := "writes", type := 4, offset := 2, embedded := false, tag := "", pkgPath := "choir/choirref8", byteOffset := 32 }] }
def td92 : TD := { sz := 3, bytes := 40, zero := [Go.Value.string { data := #[] }, Go.Value.string { data := #[] }, Go.Value.bool false], desc := Go.TypeDesc.struct #[{ name := "name", type := 9, offset := 0, embedded := false, tag := "", pkgPath := "choir/args", byteOffset := 0 }, { name := "takes", type := 9, offset := 1, embedded := false, tag := "", pkgPath := "choir/args", byteOffset := 16 }, { name := "writes", type := 4, offset := 2, embedded := false, tag := "", pkgPath := "choir/args", byteOffset := 32 }] }
def td93 : TD := { sz := 3, bytes := 40, zero := [Go.Value.string { data := #[] }, Go.Value.string { data := #[] }, Go.Value.bool false], desc := Go.TypeDesc.struct #[{ name := "name", type := 9, offset := 0, embedded := false, tag := "", pkgPath := "choir/args", byteOffset := 0 }, { name := "takes", type := 9, offset := 1, embedded := false, tag := "", pkgPath := "choir/args", byteOffset := 16 }, { name := "writes", type := 4, offset := 2, embedded := false, tag := "", pkgPath := "choir/args", byteOffset := 32 }] }
def td102 : TD := { sz := 1, bytes := 24, zero := [Go.Value.slice none 0 0], desc := Go.TypeDesc.slice 93 }
def td104 : TD := { sz := 1, bytes := 8, zero := [Go.Value.int Go.IntKind.u64 0], desc := Go.TypeDesc.int Go.IntKind.u64 }
def td130 : TD := { sz := 1, bytes := 8, zero := [Go.Value.nilFunc], desc := Go.TypeDesc.func #[2, 2] #[2, 4] false }
def td131 : TD := { sz := 1, bytes := 8, zero := [Go.Value.nilFunc], desc := Go.TypeDesc.func #[32, 32] #[32] false }
def Ty : Nat → Option TD
  | 2 => some td2
  | 3 => some td3
  | 4 => some td4
  | 5 => some td5
  | 9 => some td9
  | 20 => some td20
  | 22 => some td22
  | 26 => some td26
  | 28 => some td28
  | 32 => some td32
  | 33 => some td33
  | 34 => some td34
  | 35 => some td35
  | 37 => some td37
  | 47 => some td47
  | 50 => some td50
  | 51 => some td51
  | 52 => some td52
  | 57 => some td57
  | 60 => some td60
  | 61 => some td61
  | 63 => some td63
  | 64 => some td64
  | 65 => some td65
  | 78 => some td78
  | 79 => some td79
  | 81 => some td81
  | 85 => some td85
  | 86 => some td86
  | 88 => some td88
  | 90 => some td90
  | 91 => some td91
  | 92 => some td92
  | 93 => some td93
  | 102 => some td102
  | 104 => some td104
  | 130 => some td130
  | 131 => some td131
  | _ => none
theorem ok2 : Try.prog.underlying 2 = some td2.desc ∧ ∃ i, Try.prog.info? 2 = some i ∧ i.size = td2.sz ∧ i.bytes = td2.bytes ∧ ∃ z, i.zero = some z ∧ z.cells.toList = td2.zero := ⟨Try.underlying2, Try.t2, by kernel_rfl, rfl, rfl, _, rfl, rfl⟩
theorem ok3 : Try.prog.underlying 3 = some td3.desc ∧ ∃ i, Try.prog.info? 3 = some i ∧ i.size = td3.sz ∧ i.bytes = td3.bytes ∧ ∃ z, i.zero = some z ∧ z.cells.toList = td3.zero := ⟨Try.underlying3, Try.t3, by kernel_rfl, rfl, rfl, _, rfl, rfl⟩
theorem ok4 : Try.prog.underlying 4 = some td4.desc ∧ ∃ i, Try.prog.info? 4 = some i ∧ i.size = td4.sz ∧ i.bytes = td4.bytes ∧ ∃ z, i.zero = some z ∧ z.cells.toList = td4.zero := ⟨Try.underlying4, Try.t4, by kernel_rfl, rfl, rfl, _, rfl, rfl⟩
theorem ok5 : Try.prog.underlying 5 = some td5.desc ∧ ∃ i, Try.prog.info? 5 = some i ∧ i.size = td5.sz ∧ i.bytes = td5.bytes ∧ ∃ z, i.zero = some z ∧ z.cells.toList = td5.zero := ⟨Try.underlying5, Try.t5, by kernel_rfl, rfl, rfl, _, rfl, rfl⟩
theorem ok9 : Try.prog.underlying 9 = some td9.desc ∧ ∃ i, Try.prog.info? 9 = some i ∧ i.size = td9.sz ∧ i.bytes = td9.bytes ∧ ∃ z, i.zero = some z ∧ z.cells.toList = td9.zero := ⟨Try.underlying9, Try.t9, by kernel_rfl, rfl, rfl, _, rfl, rfl⟩
theorem ok20 : Try.prog.underlying 20 = some td20.desc ∧ ∃ i, Try.prog.info? 20 = some i ∧ i.size = td20.sz ∧ i.bytes = td20.bytes ∧ ∃ z, i.zero = some z ∧ z.cells.toList = td20.zero := ⟨Try.underlying20, Try.t20, by kernel_rfl, rfl, rfl, _, rfl, rfl⟩
theorem ok22 : Try.prog.underlying 22 = some td22.desc ∧ ∃ i, Try.prog.info? 22 = some i ∧ i.size = td22.sz ∧ i.bytes = td22.bytes ∧ ∃ z, i.zero = some z ∧ z.cells.toList = td22.zero := ⟨Try.underlying22, Try.t22, by kernel_rfl, rfl, rfl, _, rfl, rfl⟩
theorem ok26 : Try.prog.underlying 26 = some td26.desc ∧ ∃ i, Try.prog.info? 26 = some i ∧ i.size = td26.sz ∧ i.bytes = td26.bytes ∧ ∃ z, i.zero = some z ∧ z.cells.toList = td26.zero := ⟨Try.underlying26, Try.t26, by kernel_rfl, rfl, rfl, _, rfl, rfl⟩
theorem ok28 : Try.prog.underlying 28 = some td28.desc ∧ ∃ i, Try.prog.info? 28 = some i ∧ i.size = td28.sz ∧ i.bytes = td28.bytes ∧ ∃ z, i.zero = some z ∧ z.cells.toList = td28.zero := ⟨Try.underlying28, Try.t28, by kernel_rfl, rfl, rfl, _, rfl, rfl⟩
theorem ok32 : Try.prog.underlying 32 = some td32.desc ∧ ∃ i, Try.prog.info? 32 = some i ∧ i.size = td32.sz ∧ i.bytes = td32.bytes ∧ ∃ z, i.zero = some z ∧ z.cells.toList = td32.zero := ⟨Try.underlying32, Try.t32, by kernel_rfl, rfl, rfl, _, rfl, rfl⟩
theorem ok33 : Try.prog.underlying 33 = some td33.desc ∧ ∃ i, Try.prog.info? 33 = some i ∧ i.size = td33.sz ∧ i.bytes = td33.bytes ∧ ∃ z, i.zero = some z ∧ z.cells.toList = td33.zero := ⟨Try.underlying33, Try.t33, by kernel_rfl, rfl, rfl, _, rfl, rfl⟩
theorem ok34 : Try.prog.underlying 34 = some td34.desc ∧ ∃ i, Try.prog.info? 34 = some i ∧ i.size = td34.sz ∧ i.bytes = td34.bytes ∧ ∃ z, i.zero = some z ∧ z.cells.toList = td34.zero := ⟨Try.underlying34, Try.t34, by kernel_rfl, rfl, rfl, _, rfl, rfl⟩
theorem ok35 : Try.prog.underlying 35 = some td35.desc ∧ ∃ i, Try.prog.info? 35 = some i ∧ i.size = td35.sz ∧ i.bytes = td35.bytes ∧ ∃ z, i.zero = some z ∧ z.cells.toList = td35.zero := ⟨Try.underlying35, Try.t35, by kernel_rfl, rfl, rfl, _, rfl, rfl⟩
theorem ok37 : Try.prog.underlying 37 = some td37.desc ∧ ∃ i, Try.prog.info? 37 = some i ∧ i.size = td37.sz ∧ i.bytes = td37.bytes ∧ ∃ z, i.zero = some z ∧ z.cells.toList = td37.zero := ⟨Try.underlying37, Try.t37, by kernel_rfl, rfl, rfl, _, rfl, rfl⟩
theorem ok47 : Try.prog.underlying 47 = some td47.desc ∧ ∃ i, Try.prog.info? 47 = some i ∧ i.size = td47.sz ∧ i.bytes = td47.bytes ∧ ∃ z, i.zero = some z ∧ z.cells.toList = td47.zero := ⟨Try.underlying47, Try.t47, by kernel_rfl, rfl, rfl, _, rfl, rfl⟩
theorem ok50 : Try.prog.underlying 50 = some td50.desc ∧ ∃ i, Try.prog.info? 50 = some i ∧ i.size = td50.sz ∧ i.bytes = td50.bytes ∧ ∃ z, i.zero = some z ∧ z.cells.toList = td50.zero := ⟨Try.underlying50, Try.t50, by kernel_rfl, rfl, rfl, _, rfl, rfl⟩
theorem ok51 : Try.prog.underlying 51 = some td51.desc ∧ ∃ i, Try.prog.info? 51 = some i ∧ i.size = td51.sz ∧ i.bytes = td51.bytes ∧ ∃ z, i.zero = some z ∧ z.cells.toList = td51.zero := ⟨Try.underlying51, Try.t51, by kernel_rfl, rfl, rfl, _, rfl, rfl⟩
theorem ok52 : Try.prog.underlying 52 = some td52.desc ∧ ∃ i, Try.prog.info? 52 = some i ∧ i.size = td52.sz ∧ i.bytes = td52.bytes ∧ ∃ z, i.zero = some z ∧ z.cells.toList = td52.zero := ⟨Try.underlying52, Try.t52, by kernel_rfl, rfl, rfl, _, rfl, rfl⟩
theorem ok57 : Try.prog.underlying 57 = some td57.desc ∧ ∃ i, Try.prog.info? 57 = some i ∧ i.size = td57.sz ∧ i.bytes = td57.bytes ∧ ∃ z, i.zero = some z ∧ z.cells.toList = td57.zero := ⟨Try.underlying57, Try.t57, by kernel_rfl, rfl, rfl, _, rfl, rfl⟩
theorem ok60 : Try.prog.underlying 60 = some td60.desc ∧ ∃ i, Try.prog.info? 60 = some i ∧ i.size = td60.sz ∧ i.bytes = td60.bytes ∧ ∃ z, i.zero = some z ∧ z.cells.toList = td60.zero := ⟨Try.underlying60, Try.t60, by kernel_rfl, rfl, rfl, _, rfl, rfl⟩
theorem ok61 : Try.prog.underlying 61 = some td61.desc ∧ ∃ i, Try.prog.info? 61 = some i ∧ i.size = td61.sz ∧ i.bytes = td61.bytes ∧ ∃ z, i.zero = some z ∧ z.cells.toList = td61.zero := ⟨Try.underlying61, Try.t61, by kernel_rfl, rfl, rfl, _, rfl, rfl⟩
theorem ok63 : Try.prog.underlying 63 = some td63.desc ∧ ∃ i, Try.prog.info? 63 = some i ∧ i.size = td63.sz ∧ i.bytes = td63.bytes ∧ ∃ z, i.zero = some z ∧ z.cells.toList = td63.zero := ⟨Try.underlying63, Try.t63, by kernel_rfl, rfl, rfl, _, rfl, rfl⟩
theorem ok64 : Try.prog.underlying 64 = some td64.desc ∧ ∃ i, Try.prog.info? 64 = some i ∧ i.size = td64.sz ∧ i.bytes = td64.bytes ∧ ∃ z, i.zero = some z ∧ z.cells.toList = td64.zero := ⟨Try.underlying64, Try.t64, by kernel_rfl, rfl, rfl, _, rfl, rfl⟩
theorem ok65 : Try.prog.underlying 65 = some td65.desc ∧ ∃ i, Try.prog.info? 65 = some i ∧ i.size = td65.sz ∧ i.bytes = td65.bytes ∧ ∃ z, i.zero = some z ∧ z.cells.toList = td65.zero := ⟨Try.underlying65, Try.t65, by kernel_rfl, rfl, rfl, _, rfl, rfl⟩
theorem ok78 : Try.prog.underlying 78 = some td78.desc ∧ ∃ i, Try.prog.info? 78 = some i ∧ i.size = td78.sz ∧ i.bytes = td78.bytes ∧ ∃ z, i.zero = some z ∧ z.cells.toList = td78.zero := ⟨Try.underlying78, Try.t78, by kernel_rfl, rfl, rfl, _, rfl, rfl⟩
theorem ok79 : Try.prog.underlying 79 = some td79.desc ∧ ∃ i, Try.prog.info? 79 = some i ∧ i.size = td79.sz ∧ i.bytes = td79.bytes ∧ ∃ z, i.zero = some z ∧ z.cells.toList = td79.zero := ⟨Try.underlying79, Try.t79, by kernel_rfl, rfl, rfl, _, rfl, rfl⟩
theorem ok81 : Try.prog.underlying 81 = some td81.desc ∧ ∃ i, Try.prog.info? 81 = some i ∧ i.size = td81.sz ∧ i.bytes = td81.bytes ∧ ∃ z, i.zero = some z ∧ z.cells.toList = td81.zero := ⟨Try.underlying81, Try.t81, by kernel_rfl, rfl, rfl, _, rfl, rfl⟩
theorem ok85 : Try.prog.underlying 85 = some td85.desc ∧ ∃ i, Try.prog.info? 85 = some i ∧ i.size = td85.sz ∧ i.bytes = td85.bytes ∧ ∃ z, i.zero = some z ∧ z.cells.toList = td85.zero := ⟨Try.underlying85, Try.t85, by kernel_rfl, rfl, rfl, _, rfl, rfl⟩
theorem ok86 : Try.prog.underlying 86 = some td86.desc ∧ ∃ i, Try.prog.info? 86 = some i ∧ i.size = td86.sz ∧ i.bytes = td86.bytes ∧ ∃ z, i.zero = some z ∧ z.cells.toList = td86.zero := ⟨Try.underlying86, Try.t86, by kernel_rfl, rfl, rfl, _, rfl, rfl⟩
theorem ok88 : Try.prog.underlying 88 = some td88.desc ∧ ∃ i, Try.prog.info? 88 = some i ∧ i.size = td88.sz ∧ i.bytes = td88.bytes ∧ ∃ z, i.zero = some z ∧ z.cells.toList = td88.zero := ⟨Try.underlying88, Try.t88, by kernel_rfl, rfl, rfl, _, rfl, rfl⟩
theorem ok90 : Try.prog.underlying 90 = some td90.desc ∧ ∃ i, Try.prog.info? 90 = some i ∧ i.size = td90.sz ∧ i.bytes = td90.bytes ∧ ∃ z, i.zero = some z ∧ z.cells.toList = td90.zero := ⟨Try.underlying90, Try.t90, by kernel_rfl, rfl, rfl, _, rfl, rfl⟩
theorem ok91 : Try.prog.underlying 91 = some td91.desc ∧ ∃ i, Try.prog.info? 91 = some i ∧ i.size = td91.sz ∧ i.bytes = td91.bytes ∧ ∃ z, i.zero = some z ∧ z.cells.toList = td91.zero := ⟨Try.underlying91, Try.t91, by kernel_rfl, rfl, rfl, _, rfl, rfl⟩
theorem ok92 : Try.prog.underlying 92 = some td92.desc ∧ ∃ i, Try.prog.info? 92 = some i ∧ i.size = td92.sz ∧ i.bytes = td92.bytes ∧ ∃ z, i.zero = some z ∧ z.cells.toList = td92.zero := ⟨Try.underlying92, Try.t92, by kernel_rfl, rfl, rfl, _, rfl, rfl⟩
theorem ok93 : Try.prog.underlying 93 = some td93.desc ∧ ∃ i, Try.prog.info? 93 = some i ∧ i.size = td93.sz ∧ i.bytes = td93.bytes ∧ ∃ z, i.zero = some z ∧ z.cells.toList = td93.zero := ⟨Try.underlying93, Try.t93, by kernel_rfl, rfl, rfl, _, rfl, rfl⟩
theorem ok102 : Try.prog.underlying 102 = some td102.desc ∧ ∃ i, Try.prog.info? 102 = some i ∧ i.size = td102.sz ∧ i.bytes = td102.bytes ∧ ∃ z, i.zero = some z ∧ z.cells.toList = td102.zero := ⟨Try.underlying102, Try.t102, by kernel_rfl, rfl, rfl, _, rfl, rfl⟩
theorem ok104 : Try.prog.underlying 104 = some td104.desc ∧ ∃ i, Try.prog.info? 104 = some i ∧ i.size = td104.sz ∧ i.bytes = td104.bytes ∧ ∃ z, i.zero = some z ∧ z.cells.toList = td104.zero := ⟨Try.underlying104, Try.t104, by kernel_rfl, rfl, rfl, _, rfl, rfl⟩
theorem ok130 : Try.prog.underlying 130 = some td130.desc ∧ ∃ i, Try.prog.info? 130 = some i ∧ i.size = td130.sz ∧ i.bytes = td130.bytes ∧ ∃ z, i.zero = some z ∧ z.cells.toList = td130.zero := ⟨Try.underlying130, Try.t130, by kernel_rfl, rfl, rfl, _, rfl, rfl⟩
theorem ok131 : Try.prog.underlying 131 = some td131.desc ∧ ∃ i, Try.prog.info? 131 = some i ∧ i.size = td131.sz ∧ i.bytes = td131.bytes ∧ ∃ z, i.zero = some z ∧ z.cells.toList = td131.zero := ⟨Try.underlying131, Try.t131, by kernel_rfl, rfl, rfl, _, rfl, rfl⟩
theorem ty_cases {Q : Nat → TD → Prop} (h2 : Q 2 td2) (h3 : Q 3 td3) (h4 : Q 4 td4) (h5 : Q 5 td5) (h9 : Q 9 td9) (h20 : Q 20 td20) (h22 : Q 22 td22) (h26 : Q 26 td26) (h28 : Q 28 td28) (h32 : Q 32 td32) (h33 : Q 33 td33) (h34 : Q 34 td34) (h35 : Q 35 td35) (h37 : Q 37 td37) (h47 : Q 47 td47) (h50 : Q 50 td50) (h51 : Q 51 td51) (h52 : Q 52 td52) (h57 : Q 57 td57) (h60 : Q 60 td60) (h61 : Q 61 td61) (h63 : Q 63 td63) (h64 : Q 64 td64) (h65 : Q 65 td65) (h78 : Q 78 td78) (h79 : Q 79 td79) (h81 : Q 81 td81) (h85 : Q 85 td85) (h86 : Q 86 td86) (h88 : Q 88 td88) (h90 : Q 90 td90) (h91 : Q 91 td91) (h92 : Q 92 td92) (h93 : Q 93 td93) (h102 : Q 102 td102) (h104 : Q 104 td104) (h130 : Q 130 td130) (h131 : Q 131 td131) : ∀ t d, Ty t = some d → Q t d := by
  intro t d h
  unfold Ty at h
  split at h
  · injection h with h; subst h; exact h2
  · injection h with h; subst h; exact h3
  · injection h with h; subst h; exact h4
  · injection h with h; subst h; exact h5
  · injection h with h; subst h; exact h9
  · injection h with h; subst h; exact h20
  · injection h with h; subst h; exact h22
  · injection h with h; subst h; exact h26
  · injection h with h; subst h; exact h28
  · injection h with h; subst h; exact h32
  · injection h with h; subst h; exact h33
  · injection h with h; subst h; exact h34
  · injection h with h; subst h; exact h35
  · injection h with h; subst h; exact h37
  · injection h with h; subst h; exact h47
  · injection h with h; subst h; exact h50
  · injection h with h; subst h; exact h51
  · injection h with h; subst h; exact h52
  · injection h with h; subst h; exact h57
  · injection h with h; subst h; exact h60
  · injection h with h; subst h; exact h61
  · injection h with h; subst h; exact h63
  · injection h with h; subst h; exact h64
  · injection h with h; subst h; exact h65
  · injection h with h; subst h; exact h78
  · injection h with h; subst h; exact h79
  · injection h with h; subst h; exact h81
  · injection h with h; subst h; exact h85
  · injection h with h; subst h; exact h86
  · injection h with h; subst h; exact h88
  · injection h with h; subst h; exact h90
  · injection h with h; subst h; exact h91
  · injection h with h; subst h; exact h92
  · injection h with h; subst h; exact h93
  · injection h with h; subst h; exact h102
  · injection h with h; subst h; exact h104
  · injection h with h; subst h; exact h130
  · injection h with h; subst h; exact h131
  · cases h
noncomputable def env : Env where
  P := Try.prog
  Ty := Ty
  ok := ty_cases (Q := fun t d => Try.prog.underlying t = some d.desc ∧ ∃ i, Try.prog.info? t = some i ∧ i.size = d.sz ∧ i.bytes = d.bytes ∧ ∃ z, i.zero = some z ∧ z.cells.toList = d.zero) ok2 ok3 ok4 ok5 ok9 ok20 ok22 ok26 ok28 ok32 ok33 ok34 ok35 ok37 ok47 ok50 ok51 ok52 ok57 ok60 ok61 ok63 ok64 ok65 ok78 ok79 ok81 ok85 ok86 ok88 ok90 ok91 ok92 ok93 ok102 ok104 ok130 ok131
  zl := ty_cases (Q := fun t d => d.zero.length = d.sz) rfl rfl rfl rfl rfl rfl rfl rfl rfl rfl rfl rfl rfl rfl rfl rfl rfl rfl rfl rfl rfl rfl rfl rfl rfl rfl rfl rfl rfl rfl rfl rfl rfl rfl rfl rfl rfl rfl
  mixed := by kernel_rfl
end Go.Proofs.Ytbjcckjhfjhicaa
