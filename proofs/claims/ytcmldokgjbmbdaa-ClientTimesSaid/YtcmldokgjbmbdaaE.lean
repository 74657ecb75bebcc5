/- The table of the types that are met, and the environment of this seat's program. Printed by gen_env.py of this repo. -/
import Derived.Test.YtcmldokgjbmbdaaProg
import Derived.Test.YtcmldokgjbmbdaaB2
import Derived.KernelRfl
namespace Go.Proofs.Ytcmldokgjbmbdaa
open Go Go.AM
set_option linter.unusedVariables false
set_option linter.unusedSimpArgs false

def td2 : TD := { sz := 1, bytes := 8, zero := [Go.Value.int Go.IntKind.i64 0], desc := Go.TypeDesc.int Go.IntKind.i64 }
def td3 : TD := { sz := 1, bytes := 8, zero := [Go.Value.int Go.IntKind.i64 0], desc := Go.TypeDesc.int Go.IntKind.i64 }
def td4 : TD := { sz := 1, bytes := 1, zero := [Go.Value.bool false], desc := Go.TypeDesc.bool }
def td5 : TD := { sz := 1, bytes := 1, zero := [Go.Value.int Go.IntKind.u8 0], desc := Go.TypeDesc.int Go.IntKind.u8 }
def td9 : TD := { sz := 1, bytes := 16, zero := [Go.Value.string { data := #[] }], desc := Go.TypeDesc.string }
def td23 : TD := { sz := 1, bytes := 8, zero := [Go.Value.pointer none], desc := Go.TypeDesc.pointer 67 }
def td25 : TD := { sz := 1, bytes := 4, zero := [Go.Value.int Go.IntKind.u32 0], desc := Go.TypeDesc.int Go.IntKind.u32 }
def td26 : TD := { sz := 1, bytes := 24, zero := [Go.Value.slice none 0 0], desc := Go.TypeDesc.slice 29 }
def td27 : TD := { sz := 1, bytes := 2, zero := [Go.Value.int Go.IntKind.u16 0], desc := Go.TypeDesc.int Go.IntKind.u16 }
def td28 : TD := { sz := 3, bytes := 12, zero := [Go.Value.int Go.IntKind.u32 0, Go.Value.int Go.IntKind.u32 0, Go.Value.int Go.IntKind.u16 0], desc := Go.TypeDesc.struct #[{ name := "Client", type := 25, offset := 0, embedded := false, tag := "", pkgPath := "", byteOffset := 0 }, { name := "Seq", type := 25, offset := 1, embedded := false, tag := "", pkgPath := "", byteOffset := 4 }, { name := "Nest", type := 27, offset := 2, embedded := false, tag := "", pkgPath := "", byteOffset := 8 }] }
def td29 : TD := { sz := 3, bytes := 12, zero := [Go.Value.int Go.IntKind.u32 0, Go.Value.int Go.IntKind.u32 0, Go.Value.int Go.IntKind.u16 0], desc := Go.TypeDesc.struct #[{ name := "Client", type := 25, offset := 0, embedded := false, tag := "", pkgPath := "", byteOffset := 0 }, { name := "Seq", type := 25, offset := 1, embedded := false, tag := "", pkgPath := "", byteOffset := 4 }, { name := "Nest", type := 27, offset := 2, embedded := false, tag := "", pkgPath := "", byteOffset := 8 }] }
def td30 : TD := { sz := 1, bytes := 8, zero := [Go.Value.int Go.IntKind.i64 0], desc := Go.TypeDesc.int Go.IntKind.i64 }
def td34 : TD := { sz := 1, bytes := 8, zero := [Go.Value.float Go.FloatKind.f64 0], desc := Go.TypeDesc.float Go.FloatKind.f64 }
def td35 : TD := { sz := 1, bytes := 24, zero := [Go.Value.slice none 0 0], desc := Go.TypeDesc.slice 37 }
def td36 : TD := { sz := 5, bytes := 64, zero := [Go.Value.int Go.IntKind.i64 0, Go.Value.int Go.IntKind.i64 0, Go.Value.float Go.FloatKind.f64 0, Go.Value.string { data := #[] }, Go.Value.slice none 0 0], desc := Go.TypeDesc.struct #[{ name := "Kind", type := 3, offset := 0, embedded := false, tag := "", pkgPath := "", byteOffset := 0 }, { name := "I", type := 2, offset := 1, embedded := false, tag := "", pkgPath := "", byteOffset := 8 }, { name := "F", type := 34, offset := 2, embedded := false, tag := "", pkgPath := "", byteOffset := 16 }, { name := "S", type := 9, offset := 3, embedded := false, tag := "", pkgPath := "", byteOffset := 24 }, { name := "L", type := 35, offset := 4, embedded := false, tag := "", pkgPath := "", byteOffset := 40 }] }
def td37 : TD := { sz := 5, bytes := 64, zero := [Go.Value.int Go.IntKind.i64 0, Go.Value.int Go.IntKind.i64 0, Go.Value.float Go.FloatKind.f64 0, Go.Value.string { data := #[] }, Go.Value.slice none 0 0], desc := Go.TypeDesc.struct #[{ name := "Kind", type := 3, offset := 0, embedded := false, tag := "", pkgPath := "", byteOffset := 0 }, { name := "I", type := 2, offset := 1, embedded := false, tag := "", pkgPath := "", byteOffset := 8 }, { name := "F", type := 34, offset := 2, embedded := false, tag := "", pkgPath := "", byteOffset := 16 }, { name := "S", type := 9, offset := 3, embedded := false, tag := "", pkgPath := "", byteOffset := 24 }, { name := "L", type := 35, offset := 4, embedded := false, tag := "", pkgPath := "", byteOffset := 40 }] }
def td38 : TD := { sz := 9, bytes := 88, zero := [Go.Value.int Go.IntKind.u32 0, Go.Value.int Go.IntKind.u32 0, Go.Value.int Go.IntKind.u16 0, Go.Value.int Go.IntKind.i64 0, Go.Value.int Go.IntKind.i64 0, Go.Value.int Go.IntKind.i64 0, Go.Value.float Go.FloatKind.f64 0, Go.Value.string { data := #[] }, Go.Value.slice none 0 0], desc := Go.TypeDesc.struct #[{ name := "Id", type := 29, offset := 0, embedded := false, tag := "", pkgPath := "", byteOffset := 0 }, { name := "Err", type := 30, offset := 3, embedded := false, tag := "", pkgPath := "", byteOffset := 16 }, { name := "V", type := 37, offset := 4, embedded := false, tag := "", pkgPath := "", byteOffset := 24 }] }
def td39 : TD := { sz := 9, bytes := 88, zero := [Go.Value.int Go.IntKind.u32 0, Go.Value.int Go.IntKind.u32 0, Go.Value.int Go.IntKind.u16 0, Go.Value.int Go.IntKind.i64 0, Go.Value.int Go.IntKind.i64 0, Go.Value.int Go.IntKind.i64 0, Go.Value.float Go.FloatKind.f64 0, Go.Value.string { data := #[] }, Go.Value.slice none 0 0], desc := Go.TypeDesc.struct #[{ name := "Id", type := 29, offset := 0, embedded := false, tag := "", pkgPath := "", byteOffset := 0 }, { name := "Err", type := 30, offset := 3, embedded := false, tag := "", pkgPath := "", byteOffset := 16 }, { name := "V", type := 37, offset := 4, embedded := false, tag := "", pkgPath := "", byteOffset := 24 }] }
def td42 : TD := { sz := 1, bytes := 24, zero := [Go.Value.slice none 0 0], desc := Go.TypeDesc.slice 62 }
def td44 : TD := { sz := 1, bytes := 24, zero := [Go.Value.slice none 0 0], desc := Go.TypeDesc.slice 39 }
def td47 : TD := { sz := 1, bytes := 24, zero := [Go.Value.slice none 0 0], desc := Go.TypeDesc.slice 54 }
def td48 : TD := { sz := 1, bytes := 8, zero := [Go.Value.pointer none], desc := Go.TypeDesc.pointer 52 }
def td49 : TD := { sz := 1, bytes := 24, zero := [Go.Value.slice none 0 0], desc := Go.TypeDesc.slice 3 }
def td50 : TD := { sz := 1, bytes := 24, zero := [Go.Value.slice none 0 0], desc := Go.TypeDesc.slice 4 }
def td51 : TD := { sz := 6, bytes := 104, zero := [Go.Value.int Go.IntKind.u32 0, Go.Value.int Go.IntKind.u32 0, Go.Value.slice none 0 0, Go.Value.slice none 0 0, Go.Value.slice none 0 0, Go.Value.slice none 0 0], desc := Go.TypeDesc.struct #[{ name := "Id", type := 25, offset := 0, embedded := false, tag := "", pkgPath := "", byteOffset := 0 }, { name := "N", type := 25, offset := 1, embedded := false, tag := "", pkgPath := "", byteOffset := 4 }, { name := "L", type := 42, offset := 2, embedded := false, tag := "", pkgPath := "", byteOffset := 8 }, { name := "Age", type := 49, offset := 3, embedded := false, tag := "", pkgPath := "", byteOffset := 32 }, { name := "Go", type := 50, offset := 4, embedded := false, tag := "", pkgPath := "", byteOffset := 56 }, { name := "Done", type := 44, offset := 5, embedded := false, tag := "", pkgPath := "", byteOffset := 80 }] }
def td52 : TD := { sz := 6, bytes := 104, zero := [Go.Value.int Go.IntKind.u32 0, Go.Value.int Go.IntKind.u32 0, Go.Value.slice none 0 0, Go.Value.slice none 0 0, Go.Value.slice none 0 0, Go.Value.slice none 0 0], desc := Go.TypeDesc.struct #[{ name := "Id", type := 25, offset := 0, embedded := false, tag := "", pkgPath := "", byteOffset := 0 }, { name := "N", type := 25, offset := 1, embedded := false, tag := "", pkgPath := "", byteOffset := 4 }, { name := "L", type := 42, offset := 2, embedded := false, tag := "", pkgPath := "", byteOffset := 8 }, { name := "Age", type := 49, offset := 3, embedded := false, tag := "", pkgPath := "", byteOffset := 32 }, { name := "Go", type := 50, offset := 4, embedded := false, tag := "", pkgPath := "", byteOffset := 56 }, { name := "Done", type := 44, offset := 5, embedded := false, tag := "", pkgPath := "", byteOffset := 80 }] }
def td53 : TD := { sz := 10, bytes := 120, zero := [Go.Value.int Go.IntKind.u8 0, Go.Value.int Go.IntKind.u8 0, Go.Value.string { data := #[] }, Go.Value.slice none 0 0, Go.Value.int Go.IntKind.u8 0, Go.Value.int Go.IntKind.i64 0, Go.Value.int Go.IntKind.i64 0, Go.Value.float Go.FloatKind.f64 0, Go.Value.string { data := #[] }, Go.Value.slice none 0 0], desc := Go.TypeDesc.struct #[{ name := "What", type := 5, offset := 0, embedded := false, tag := "", pkgPath := "", byteOffset := 0 }, { name := "N", type := 5, offset := 1, embedded := false, tag := "", pkgPath := "", byteOffset := 1 }, { name := "S", type := 9, offset := 2, embedded := false, tag := "", pkgPath := "", byteOffset := 8 }, { name := "L", type := 35, offset := 3, embedded := false, tag := "", pkgPath := "", byteOffset := 24 }, { name := "Err", type := 5, offset := 4, embedded := false, tag := "", pkgPath := "", byteOffset := 48 }, { name := "V", type := 37, offset := 5, embedded := false, tag := "", pkgPath := "", byteOffset := 56 }] }
def td54 : TD := { sz := 10, bytes := 120, zero := [Go.Value.int Go.IntKind.u8 0, Go.Value.int Go.IntKind.u8 0, Go.Value.string { data := #[] }, Go.Value.slice none 0 0, Go.Value.int Go.IntKind.u8 0, Go.Value.int Go.IntKind.i64 0, Go.Value.int Go.IntKind.i64 0, Go.Value.float Go.FloatKind.f64 0, Go.Value.string { data := #[] }, Go.Value.slice none 0 0], desc := Go.TypeDesc.struct #[{ name := "What", type := 5, offset := 0, embedded := false, tag := "", pkgPath := "", byteOffset := 0 }, { name := "N", type := 5, offset := 1, embedded := false, tag := "", pkgPath := "", byteOffset := 1 }, { name := "S", type := 9, offset := 2, embedded := false, tag := "", pkgPath := "", byteOffset := 8 }, { name := "L", type := 35, offset := 3, embedded := false, tag := "", pkgPath := "", byteOffset := 24 }, { name := "Err", type := 5, offset := 4, embedded := false, tag := "", pkgPath := "", byteOffset := 48 }, { name := "V", type := 37, offset := 5, embedded := false, tag := "", pkgPath := "", byteOffset := 56 }] }
def td61 : TD := { sz := 6, bytes := 72, zero := [Go.Value.int Go.IntKind.u32 0, Go.Value.int Go.IntKind.u32 0, Go.Value.int Go.IntKind.u16 0, Go.Value.string { data := #[] }, Go.Value.string { data := #[] }, Go.Value.slice none 0 0], desc := Go.TypeDesc.struct #[{ name := "Id", type := 29, offset := 0, embedded := false, tag := "", pkgPath := "", byteOffset := 0 }, { name := "Group", type := 9, offset := 3, embedded := false, tag := "", pkgPath := "", byteOffset := 16 }, { name := "Method", type := 9, offset := 4, embedded := false, tag := "", pkgPath := "", byteOffset := 32 }, { name := "Args", type := 35, offset := 5, embedded := false, tag := "", pkgPath := "", byteOffset := 48 }] }
def td62 : TD := { sz := 6, bytes := 72, zero := [Go.Value.int Go.IntKind.u32 0, Go.Value.int Go.IntKind.u32 0, Go.Value.int Go.IntKind.u16 0, Go.Value.string { data := #[] }, Go.Value.string { data := #[] }, Go.Value.slice none 0 0], desc := Go.TypeDesc.struct #[{ name := "Id", type := 29, offset := 0, embedded := false, tag := "", pkgPath := "", byteOffset := 0 }, { name := "Group", type := 9, offset := 3, embedded := false, tag := "", pkgPath := "", byteOffset := 16 }, { name := "Method", type := 9, offset := 4, embedded := false, tag := "", pkgPath := "", byteOffset := 32 }, { name := "Args", type := 35, offset := 5, embedded := false, tag := "", pkgPath := "", byteOffset := 48 }] }
def td65 : TD := { sz := 1, bytes := 24, zero := [Go.Value.slice none 0 0], desc := Go.TypeDesc.slice 72 }
def td66 : TD := { sz := 4, bytes := 56, zero := [Go.Value.int Go.IntKind.u32 0, Go.Value.int Go.IntKind.u32 0, Go.Value.slice none 0 0, Go.Value.slice none 0 0], desc := Go.TypeDesc.struct #[{ name := "id", type := 25, offset := 0, embedded := false, tag := "", pkgPath := "choir/client", byteOffset := 0 }, { name := "seq", type := 25, offset := 1, embedded := false, tag := "", pkgPath := "choir/client", byteOffset := 4 }, { name := "open", type := 65, offset := 2, embedded := false, tag := "", pkgPath := "choir/client", byteOffset := 8 }, { name := "replies", type := 44, offset := 3, embedded := false, tag := "", pkgPath := "choir/client", byteOffset := 32 }] }
def td67 : TD := { sz := 4, bytes := 56, zero := [Go.Value.int Go.IntKind.u32 0, Go.Value.int Go.IntKind.u32 0, Go.Value.slice none 0 0, Go.Value.slice none 0 0], desc := Go.TypeDesc.struct #[{ name := "id", type := 25, offset := 0, embedded := false, tag := "", pkgPath := "choir/client", byteOffset := 0 }, { name := "seq", type := 25, offset := 1, embedded := false, tag := "", pkgPath := "choir/client", byteOffset := 4 }, { name := "open", type := 65, offset := 2, embedded := false, tag := "", pkgPath := "choir/client", byteOffset := 8 }, { name := "replies", type := 44, offset := 3, embedded := false, tag := "", pkgPath := "choir/client", byteOffset := 32 }] }
def td71 : TD := { sz := 8, bytes := 88, zero := [Go.Value.int Go.IntKind.u32 0, Go.Value.int Go.IntKind.u32 0, Go.Value.int Go.IntKind.u16 0, Go.Value.string { data := #[] }, Go.Value.string { data := #[] }, Go.Value.slice none 0 0, Go.Value.int Go.IntKind.i64 0, Go.Value.bool false], desc := Go.TypeDesc.struct #[{ name := "o", type := 62, offset := 0, embedded := false, tag := "", pkgPath := "choir/client", byteOffset := 0 }, { name := "age", type := 3, offset := 6, embedded := false, tag := "", pkgPath := "choir/client", byteOffset := 72 }, { name := "now", type := 4, offset := 7, embedded := false, tag := "", pkgPath := "choir/client", byteOffset := 80 }] }
def td72 : TD := { sz := 8, bytes := 88, zero := [Go.Value.int Go.IntKind.u32 0, Go.Value.int Go.IntKind.u32 0, Go.Value.int Go.IntKind.u16 0, Go.Value.string { data := #[] }, Go.Value.string { data := #[] }, Go.Value.slice none 0 0, Go.Value.int Go.IntKind.i64 0, Go.Value.bool false], desc := Go.TypeDesc.struct #[{ name := "o", type := 62, offset := 0, embedded := false, tag := "", pkgPath := "choir/client", byteOffset := 0 }, { name := "age", type := 3, offset := 6, embedded := false, tag := "", pkgPath := "choir/client", byteOffset := 72 }, { name := "now", type := 4, offset := 7, embedded := false, tag := "", pkgPath := "choir/client", byteOffset := 80 }] }
def td76 : TD := { sz := 1, bytes := 8, zero := [Go.Value.pointer none], desc := Go.TypeDesc.pointer 72 }
def td91 : TD := { sz := 1, bytes := 8, zero := [Go.Value.int Go.IntKind.u64 0], desc := Go.TypeDesc.int Go.IntKind.u64 }
def Ty : Nat → Option TD
  | 2 => some td2
  | 3 => some td3
  | 4 => some td4
  | 5 => some td5
  | 9 => some td9
  | 23 => some td23
  | 25 => some td25
  | 26 => some td26
  | 27 => some td27
  | 28 => some td28
  | 29 => some td29
  | 30 => some td30
  | 34 => some td34
  | 35 => some td35
  | 36 => some td36
  | 37 => some td37
  | 38 => some td38
  | 39 => some td39
  | 42 => some td42
  | 44 => some td44
  | 47 => some td47
  | 48 => some td48
  | 49 => some td49
  | 50 => some td50
  | 51 => some td51
  | 52 => some td52
  | 53 => some td53
  | 54 => some td54
  | 61 => some td61
  | 62 => some td62
  | 65 => some td65
  | 66 => some td66
  | 67 => some td67
  | 71 => some td71
  | 72 => some td72
  | 76 => some td76
  | 91 => some td91
  | _ => none
theorem ok2 : Try.prog.underlying 2 = some td2.desc ∧ ∃ i, Try.prog.info? 2 = some i ∧ i.size = td2.sz ∧ i.bytes = td2.bytes ∧ ∃ z, i.zero = some z ∧ z.cells.toList = td2.zero := ⟨Try.underlying2, Try.t2, by kernel_rfl, rfl, rfl, _, rfl, rfl⟩
theorem ok3 : Try.prog.underlying 3 = some td3.desc ∧ ∃ i, Try.prog.info? 3 = some i ∧ i.size = td3.sz ∧ i.bytes = td3.bytes ∧ ∃ z, i.zero = some z ∧ z.cells.toList = td3.zero := ⟨Try.underlying3, Try.t3, by kernel_rfl, rfl, rfl, _, rfl, rfl⟩
theorem ok4 : Try.prog.underlying 4 = some td4.desc ∧ ∃ i, Try.prog.info? 4 = some i ∧ i.size = td4.sz ∧ i.bytes = td4.bytes ∧ ∃ z, i.zero = some z ∧ z.cells.toList = td4.zero := ⟨Try.underlying4, Try.t4, by kernel_rfl, rfl, rfl, _, rfl, rfl⟩
theorem ok5 : Try.prog.underlying 5 = some td5.desc ∧ ∃ i, Try.prog.info? 5 = some i ∧ i.size = td5.sz ∧ i.bytes = td5.bytes ∧ ∃ z, i.zero = some z ∧ z.cells.toList = td5.zero := ⟨Try.underlying5, Try.t5, by kernel_rfl, rfl, rfl, _, rfl, rfl⟩
theorem ok9 : Try.prog.underlying 9 = some td9.desc ∧ ∃ i, Try.prog.info? 9 = some i ∧ i.size = td9.sz ∧ i.bytes = td9.bytes ∧ ∃ z, i.zero = some z ∧ z.cells.toList = td9.zero := ⟨Try.underlying9, Try.t9, by kernel_rfl, rfl, rfl, _, rfl, rfl⟩
theorem ok23 : Try.prog.underlying 23 = some td23.desc ∧ ∃ i, Try.prog.info? 23 = some i ∧ i.size = td23.sz ∧ i.bytes = td23.bytes ∧ ∃ z, i.zero = some z ∧ z.cells.toList = td23.zero := ⟨Try.underlying23, Try.t23, by kernel_rfl, rfl, rfl, _, rfl, rfl⟩
theorem ok25 : Try.prog.underlying 25 = some td25.desc ∧ ∃ i, Try.prog.info? 25 = some i ∧ i.size = td25.sz ∧ i.bytes = td25.bytes ∧ ∃ z, i.zero = some z ∧ z.cells.toList = td25.zero := ⟨Try.underlying25, Try.t25, by kernel_rfl, rfl, rfl, _, rfl, rfl⟩
theorem ok26 : Try.prog.underlying 26 = some td26.desc ∧ ∃ i, Try.prog.info? 26 = some i ∧ i.size = td26.sz ∧ i.bytes = td26.bytes ∧ ∃ z, i.zero = some z ∧ z.cells.toList = td26.zero := ⟨Try.underlying26, Try.t26, by kernel_rfl, rfl, rfl, _, rfl, rfl⟩
theorem ok27 : Try.prog.underlying 27 = some td27.desc ∧ ∃ i, Try.prog.info? 27 = some i ∧ i.size = td27.sz ∧ i.bytes = td27.bytes ∧ ∃ z, i.zero = some z ∧ z.cells.toList = td27.zero := ⟨Try.underlying27, Try.t27, by kernel_rfl, rfl, rfl, _, rfl, rfl⟩
theorem ok28 : Try.prog.underlying 28 = some td28.desc ∧ ∃ i, Try.prog.info? 28 = some i ∧ i.size = td28.sz ∧ i.bytes = td28.bytes ∧ ∃ z, i.zero = some z ∧ z.cells.toList = td28.zero := ⟨Try.underlying28, Try.t28, by kernel_rfl, rfl, rfl, _, rfl, rfl⟩
theorem ok29 : Try.prog.underlying 29 = some td29.desc ∧ ∃ i, Try.prog.info? 29 = some i ∧ i.size = td29.sz ∧ i.bytes = td29.bytes ∧ ∃ z, i.zero = some z ∧ z.cells.toList = td29.zero := ⟨Try.underlying29, Try.t29, by kernel_rfl, rfl, rfl, _, rfl, rfl⟩
theorem ok30 : Try.prog.underlying 30 = some td30.desc ∧ ∃ i, Try.prog.info? 30 = some i ∧ i.size = td30.sz ∧ i.bytes = td30.bytes ∧ ∃ z, i.zero = some z ∧ z.cells.toList = td30.zero := ⟨Try.underlying30, Try.t30, by kernel_rfl, rfl, rfl, _, rfl, rfl⟩
theorem ok34 : Try.prog.underlying 34 = some td34.desc ∧ ∃ i, Try.prog.info? 34 = some i ∧ i.size = td34.sz ∧ i.bytes = td34.bytes ∧ ∃ z, i.zero = some z ∧ z.cells.toList = td34.zero := ⟨Try.underlying34, Try.t34, by kernel_rfl, rfl, rfl, _, rfl, rfl⟩
theorem ok35 : Try.prog.underlying 35 = some td35.desc ∧ ∃ i, Try.prog.info? 35 = some i ∧ i.size = td35.sz ∧ i.bytes = td35.bytes ∧ ∃ z, i.zero = some z ∧ z.cells.toList = td35.zero := ⟨Try.underlying35, Try.t35, by kernel_rfl, rfl, rfl, _, rfl, rfl⟩
theorem ok36 : Try.prog.underlying 36 = some td36.desc ∧ ∃ i, Try.prog.info? 36 = some i ∧ i.size = td36.sz ∧ i.bytes = td36.bytes ∧ ∃ z, i.zero = some z ∧ z.cells.toList = td36.zero := ⟨Try.underlying36, Try.t36, by kernel_rfl, rfl, rfl, _, rfl, rfl⟩
theorem ok37 : Try.prog.underlying 37 = some td37.desc ∧ ∃ i, Try.prog.info? 37 = some i ∧ i.size = td37.sz ∧ i.bytes = td37.bytes ∧ ∃ z, i.zero = some z ∧ z.cells.toList = td37.zero := ⟨Try.underlying37, Try.t37, by kernel_rfl, rfl, rfl, _, rfl, rfl⟩
theorem ok38 : Try.prog.underlying 38 = some td38.desc ∧ ∃ i, Try.prog.info? 38 = some i ∧ i.size = td38.sz ∧ i.bytes = td38.bytes ∧ ∃ z, i.zero = some z ∧ z.cells.toList = td38.zero := ⟨Try.underlying38, Try.t38, by kernel_rfl, rfl, rfl, _, rfl, rfl⟩
theorem ok39 : Try.prog.underlying 39 = some td39.desc ∧ ∃ i, Try.prog.info? 39 = some i ∧ i.size = td39.sz ∧ i.bytes = td39.bytes ∧ ∃ z, i.zero = some z ∧ z.cells.toList = td39.zero := ⟨Try.underlying39, Try.t39, by kernel_rfl, rfl, rfl, _, rfl, rfl⟩
theorem ok42 : Try.prog.underlying 42 = some td42.desc ∧ ∃ i, Try.prog.info? 42 = some i ∧ i.size = td42.sz ∧ i.bytes = td42.bytes ∧ ∃ z, i.zero = some z ∧ z.cells.toList = td42.zero := ⟨Try.underlying42, Try.t42, by kernel_rfl, rfl, rfl, _, rfl, rfl⟩
theorem ok44 : Try.prog.underlying 44 = some td44.desc ∧ ∃ i, Try.prog.info? 44 = some i ∧ i.size = td44.sz ∧ i.bytes = td44.bytes ∧ ∃ z, i.zero = some z ∧ z.cells.toList = td44.zero := ⟨Try.underlying44, Try.t44, by kernel_rfl, rfl, rfl, _, rfl, rfl⟩
theorem ok47 : Try.prog.underlying 47 = some td47.desc ∧ ∃ i, Try.prog.info? 47 = some i ∧ i.size = td47.sz ∧ i.bytes = td47.bytes ∧ ∃ z, i.zero = some z ∧ z.cells.toList = td47.zero := ⟨Try.underlying47, Try.t47, by kernel_rfl, rfl, rfl, _, rfl, rfl⟩
theorem ok48 : Try.prog.underlying 48 = some td48.desc ∧ ∃ i, Try.prog.info? 48 = some i ∧ i.size = td48.sz ∧ i.bytes = td48.bytes ∧ ∃ z, i.zero = some z ∧ z.cells.toList = td48.zero := ⟨Try.underlying48, Try.t48, by kernel_rfl, rfl, rfl, _, rfl, rfl⟩
theorem ok49 : Try.prog.underlying 49 = some td49.desc ∧ ∃ i, Try.prog.info? 49 = some i ∧ i.size = td49.sz ∧ i.bytes = td49.bytes ∧ ∃ z, i.zero = some z ∧ z.cells.toList = td49.zero := ⟨Try.underlying49, Try.t49, by kernel_rfl, rfl, rfl, _, rfl, rfl⟩
theorem ok50 : Try.prog.underlying 50 = some td50.desc ∧ ∃ i, Try.prog.info? 50 = some i ∧ i.size = td50.sz ∧ i.bytes = td50.bytes ∧ ∃ z, i.zero = some z ∧ z.cells.toList = td50.zero := ⟨Try.underlying50, Try.t50, by kernel_rfl, rfl, rfl, _, rfl, rfl⟩
theorem ok51 : Try.prog.underlying 51 = some td51.desc ∧ ∃ i, Try.prog.info? 51 = some i ∧ i.size = td51.sz ∧ i.bytes = td51.bytes ∧ ∃ z, i.zero = some z ∧ z.cells.toList = td51.zero := ⟨Try.underlying51, Try.t51, by kernel_rfl, rfl, rfl, _, rfl, rfl⟩
theorem ok52 : Try.prog.underlying 52 = some td52.desc ∧ ∃ i, Try.prog.info? 52 = some i ∧ i.size = td52.sz ∧ i.bytes = td52.bytes ∧ ∃ z, i.zero = some z ∧ z.cells.toList = td52.zero := ⟨Try.underlying52, Try.t52, by kernel_rfl, rfl, rfl, _, rfl, rfl⟩
theorem ok53 : Try.prog.underlying 53 = some td53.desc ∧ ∃ i, Try.prog.info? 53 = some i ∧ i.size = td53.sz ∧ i.bytes = td53.bytes ∧ ∃ z, i.zero = some z ∧ z.cells.toList = td53.zero := ⟨Try.underlying53, Try.t53, by kernel_rfl, rfl, rfl, _, rfl, rfl⟩
theorem ok54 : Try.prog.underlying 54 = some td54.desc ∧ ∃ i, Try.prog.info? 54 = some i ∧ i.size = td54.sz ∧ i.bytes = td54.bytes ∧ ∃ z, i.zero = some z ∧ z.cells.toList = td54.zero := ⟨Try.underlying54, Try.t54, by kernel_rfl, rfl, rfl, _, rfl, rfl⟩
theorem ok61 : Try.prog.underlying 61 = some td61.desc ∧ ∃ i, Try.prog.info? 61 = some i ∧ i.size = td61.sz ∧ i.bytes = td61.bytes ∧ ∃ z, i.zero = some z ∧ z.cells.toList = td61.zero := ⟨Try.underlying61, Try.t61, by kernel_rfl, rfl, rfl, _, rfl, rfl⟩
theorem ok62 : Try.prog.underlying 62 = some td62.desc ∧ ∃ i, Try.prog.info? 62 = some i ∧ i.size = td62.sz ∧ i.bytes = td62.bytes ∧ ∃ z, i.zero = some z ∧ z.cells.toList = td62.zero := ⟨Try.underlying62, Try.t62, by kernel_rfl, rfl, rfl, _, rfl, rfl⟩
theorem ok65 : Try.prog.underlying 65 = some td65.desc ∧ ∃ i, Try.prog.info? 65 = some i ∧ i.size = td65.sz ∧ i.bytes = td65.bytes ∧ ∃ z, i.zero = some z ∧ z.cells.toList = td65.zero := ⟨Try.underlying65, Try.t65, by kernel_rfl, rfl, rfl, _, rfl, rfl⟩
theorem ok66 : Try.prog.underlying 66 = some td66.desc ∧ ∃ i, Try.prog.info? 66 = some i ∧ i.size = td66.sz ∧ i.bytes = td66.bytes ∧ ∃ z, i.zero = some z ∧ z.cells.toList = td66.zero := ⟨Try.underlying66, Try.t66, by kernel_rfl, rfl, rfl, _, rfl, rfl⟩
theorem ok67 : Try.prog.underlying 67 = some td67.desc ∧ ∃ i, Try.prog.info? 67 = some i ∧ i.size = td67.sz ∧ i.bytes = td67.bytes ∧ ∃ z, i.zero = some z ∧ z.cells.toList = td67.zero := ⟨Try.underlying67, Try.t67, by kernel_rfl, rfl, rfl, _, rfl, rfl⟩
theorem ok71 : Try.prog.underlying 71 = some td71.desc ∧ ∃ i, Try.prog.info? 71 = some i ∧ i.size = td71.sz ∧ i.bytes = td71.bytes ∧ ∃ z, i.zero = some z ∧ z.cells.toList = td71.zero := ⟨Try.underlying71, Try.t71, by kernel_rfl, rfl, rfl, _, rfl, rfl⟩
theorem ok72 : Try.prog.underlying 72 = some td72.desc ∧ ∃ i, Try.prog.info? 72 = some i ∧ i.size = td72.sz ∧ i.bytes = td72.bytes ∧ ∃ z, i.zero = some z ∧ z.cells.toList = td72.zero := ⟨Try.underlying72, Try.t72, by kernel_rfl, rfl, rfl, _, rfl, rfl⟩
theorem ok76 : Try.prog.underlying 76 = some td76.desc ∧ ∃ i, Try.prog.info? 76 = some i ∧ i.size = td76.sz ∧ i.bytes = td76.bytes ∧ ∃ z, i.zero = some z ∧ z.cells.toList = td76.zero := ⟨Try.underlying76, Try.t76, by kernel_rfl, rfl, rfl, _, rfl, rfl⟩
theorem ok91 : Try.prog.underlying 91 = some td91.desc ∧ ∃ i, Try.prog.info? 91 = some i ∧ i.size = td91.sz ∧ i.bytes = td91.bytes ∧ ∃ z, i.zero = some z ∧ z.cells.toList = td91.zero := ⟨Try.underlying91, Try.t91, by kernel_rfl, rfl, rfl, _, rfl, rfl⟩
theorem ty_cases {Q : Nat → TD → Prop} (h2 : Q 2 td2) (h3 : Q 3 td3) (h4 : Q 4 td4) (h5 : Q 5 td5) (h9 : Q 9 td9) (h23 : Q 23 td23) (h25 : Q 25 td25) (h26 : Q 26 td26) (h27 : Q 27 td27) (h28 : Q 28 td28) (h29 : Q 29 td29) (h30 : Q 30 td30) (h34 : Q 34 td34) (h35 : Q 35 td35) (h36 : Q 36 td36) (h37 : Q 37 td37) (h38 : Q 38 td38) (h39 : Q 39 td39) (h42 : Q 42 td42) (h44 : Q 44 td44) (h47 : Q 47 td47) (h48 : Q 48 td48) (h49 : Q 49 td49) (h50 : Q 50 td50) (h51 : Q 51 td51) (h52 : Q 52 td52) (h53 : Q 53 td53) (h54 : Q 54 td54) (h61 : Q 61 td61) (h62 : Q 62 td62) (h65 : Q 65 td65) (h66 : Q 66 td66) (h67 : Q 67 td67) (h71 : Q 71 td71) (h72 : Q 72 td72) (h76 : Q 76 td76) (h91 : Q 91 td91) : ∀ t d, Ty t = some d → Q t d := by
  intro t d h
  unfold Ty at h
  split at h
  · injection h with h; subst h; exact h2
  · injection h with h; subst h; exact h3
  · injection h with h; subst h; exact h4
  · injection h with h; subst h; exact h5
  · injection h with h; subst h; exact h9
  · injection h with h; subst h; exact h23
  · injection h with h; subst h; exact h25
  · injection h with h; subst h; exact h26
  · injection h with h; subst h; exact h27
  · injection h with h; subst h; exact h28
  · injection h with h; subst h; exact h29
  · injection h with h; subst h; exact h30
  · injection h with h; subst h; exact h34
  · injection h with h; subst h; exact h35
  · injection h with h; subst h; exact h36
  · injection h with h; subst h; exact h37
  · injection h with h; subst h; exact h38
  · injection h with h; subst h; exact h39
  · injection h with h; subst h; exact h42
  · injection h with h; subst h; exact h44
  · injection h with h; subst h; exact h47
  · injection h with h; subst h; exact h48
  · injection h with h; subst h; exact h49
  · injection h with h; subst h; exact h50
  · injection h with h; subst h; exact h51
  · injection h with h; subst h; exact h52
  · injection h with h; subst h; exact h53
  · injection h with h; subst h; exact h54
  · injection h with h; subst h; exact h61
  · injection h with h; subst h; exact h62
  · injection h with h; subst h; exact h65
  · injection h with h; subst h; exact h66
  · injection h with h; subst h; exact h67
  · injection h with h; subst h; exact h71
  · injection h with h; subst h; exact h72
  · injection h with h; subst h; exact h76
  · injection h with h; subst h; exact h91
  · cases h
noncomputable def env : Env where
  P := Try.prog
  Ty := Ty
  ok := ty_cases (Q := fun t d => Try.prog.underlying t = some d.desc ∧ ∃ i, Try.prog.info? t = some i ∧ i.size = d.sz ∧ i.bytes = d.bytes ∧ ∃ z, i.zero = some z ∧ z.cells.toList = d.zero) ok2 ok3 ok4 ok5 ok9 ok23 ok25 ok26 ok27 ok28 ok29 ok30 ok34 ok35 ok36 ok37 ok38 ok39 ok42 ok44 ok47 ok48 ok49 ok50 ok51 ok52 ok53 ok54 ok61 ok62 ok65 ok66 ok67 ok71 ok72 ok76 ok91
  zl := ty_cases (Q := fun t d => d.zero.length = d.sz) rfl rfl rfl rfl rfl rfl rfl rfl rfl rfl rfl rfl rfl rfl rfl rfl rfl rfl rfl rfl rfl rfl rfl rfl rfl rfl rfl rfl rfl rfl rfl rfl rfl rfl rfl rfl rfl
  mixed := by kernel_rfl
end Go.Proofs.Ytcmldokgjbmbdaa
