/- The table of the types that are met, and the environment of this seat's program. Printed by gen_env.py of this repo. -/
import Derived.Test.YtafieicinmcngaaProg
import Derived.Test.YtafieicinmcngaaM21
import Derived.KernelRfl
namespace Go.Proofs.Ytafieicinmcngaa
open Go Go.AM
set_option linter.unusedVariables false

def td3 : TD := { sz := 1, bytes := 8, zero := [Go.Value.int Go.IntKind.i64 0], desc := Go.TypeDesc.int Go.IntKind.i64 }
def td4 : TD := { sz := 1, bytes := 1, zero := [Go.Value.bool false], desc := Go.TypeDesc.bool }
def td5 : TD := { sz := 1, bytes := 1, zero := [Go.Value.int Go.IntKind.u8 0], desc := Go.TypeDesc.int Go.IntKind.u8 }
def td22 : TD := { sz := 1, bytes := 24, zero := [Go.Value.slice none 0 0], desc := Go.TypeDesc.slice 30 }
def td24 : TD := { sz := 2, bytes := 16, zero := [Go.Value.int Go.IntKind.i64 0, Go.Value.int Go.IntKind.i64 0], desc := Go.TypeDesc.array 2 3 }
def td25 : TD := { sz := 1, bytes := 24, zero := [Go.Value.slice none 0 0], desc := Go.TypeDesc.slice 24 }
def td26 : TD := { sz := 1, bytes := 8, zero := [Go.Value.pointer none], desc := Go.TypeDesc.pointer 44 }
def td28 : TD := { sz := 1, bytes := 8, zero := [Go.Value.pointer none], desc := Go.TypeDesc.pointer 40 }
def td30 : TD := { sz := 1, bytes := 2, zero := [Go.Value.int Go.IntKind.i16 0], desc := Go.TypeDesc.int Go.IntKind.i16 }
def td33 : TD := { sz := 1, bytes := 24, zero := [Go.Value.slice none 0 0], desc := Go.TypeDesc.slice 3 }
def td39 : TD := { sz := 3, bytes := 40, zero := [Go.Value.int Go.IntKind.i64 0, Go.Value.slice none 0 0, Go.Value.int Go.IntKind.i64 0], desc := Go.TypeDesc.struct #[{ name := "Self", type := 3, offset := 0, embedded := false, tag := "", pkgPath := "", byteOffset := 0 }, { name := "Ages", type := 33, offset := 1, embedded := false, tag := "", pkgPath := "", byteOffset := 8 }, { name := "Ticks", type := 3, offset := 2, embedded := false, tag := "", pkgPath := "", byteOffset := 32 }] }
def td40 : TD := { sz := 3, bytes := 40, zero := [Go.Value.int Go.IntKind.i64 0, Go.Value.slice none 0 0, Go.Value.int Go.IntKind.i64 0], desc := Go.TypeDesc.struct #[{ name := "Self", type := 3, offset := 0, embedded := false, tag := "", pkgPath := "", byteOffset := 0 }, { name := "Ages", type := 33, offset := 1, embedded := false, tag := "", pkgPath := "", byteOffset := 8 }, { name := "Ticks", type := 3, offset := 2, embedded := false, tag := "", pkgPath := "", byteOffset := 32 }] }
def td43 : TD := { sz := 3, bytes := 40, zero := [Go.Value.int Go.IntKind.i64 0, Go.Value.slice none 0 0, Go.Value.int Go.IntKind.i64 0], desc := Go.TypeDesc.struct #[{ name := "self", type := 3, offset := 0, embedded := false, tag := "", pkgPath := "choir/suspect", byteOffset := 0 }, { name := "ages", type := 33, offset := 1, embedded := false, tag := "", pkgPath := "choir/suspect", byteOffset := 8 }, { name := "ticks", type := 3, offset := 2, embedded := false, tag := "", pkgPath := "choir/suspect", byteOffset := 32 }] }
def td44 : TD := { sz := 3, bytes := 40, zero := [Go.Value.int Go.IntKind.i64 0, Go.Value.slice none 0 0, Go.Value.int Go.IntKind.i64 0], desc := Go.TypeDesc.struct #[{ name := "self", type := 3, offset := 0, embedded := false, tag := "", pkgPath := "choir/suspect", byteOffset := 0 }, { name := "ages", type := 33, offset := 1, embedded := false, tag := "", pkgPath := "choir/suspect", byteOffset := 8 }, { name := "ticks", type := 3, offset := 2, embedded := false, tag := "", pkgPath := "choir/suspect", byteOffset := 32 }] }
def Ty : Nat → Option TD
  | 3 => some td3
  | 4 => some td4
  | 5 => some td5
  | 22 => some td22
  | 24 => some td24
  | 25 => some td25
  | 26 => some td26
  | 28 => some td28
  | 30 => some td30
  | 33 => some td33
  | 39 => some td39
  | 40 => some td40
  | 43 => some td43
  | 44 => some td44
  | _ => none
theorem ok3 : Try.prog.underlying 3 = some td3.desc ∧ ∃ i, Try.prog.info? 3 = some i ∧ i.size = td3.sz ∧ i.bytes = td3.bytes ∧ ∃ z, i.zero = some z ∧ z.cells.toList = td3.zero := ⟨Try.underlying3, Try.t3, by kernel_rfl, rfl, rfl, _, rfl, rfl⟩
theorem ok4 : Try.prog.underlying 4 = some td4.desc ∧ ∃ i, Try.prog.info? 4 = some i ∧ i.size = td4.sz ∧ i.bytes = td4.bytes ∧ ∃ z, i.zero = some z ∧ z.cells.toList = td4.zero := ⟨Try.underlying4, Try.t4, by kernel_rfl, rfl, rfl, _, rfl, rfl⟩
theorem ok5 : Try.prog.underlying 5 = some td5.desc ∧ ∃ i, Try.prog.info? 5 = some i ∧ i.size = td5.sz ∧ i.bytes = td5.bytes ∧ ∃ z, i.zero = some z ∧ z.cells.toList = td5.zero := ⟨Try.underlying5, Try.t5, by kernel_rfl, rfl, rfl, _, rfl, rfl⟩
theorem ok22 : Try.prog.underlying 22 = some td22.desc ∧ ∃ i, Try.prog.info? 22 = some i ∧ i.size = td22.sz ∧ i.bytes = td22.bytes ∧ ∃ z, i.zero = some z ∧ z.cells.toList = td22.zero := ⟨Try.underlying22, Try.t22, by kernel_rfl, rfl, rfl, _, rfl, rfl⟩
theorem ok24 : Try.prog.underlying 24 = some td24.desc ∧ ∃ i, Try.prog.info? 24 = some i ∧ i.size = td24.sz ∧ i.bytes = td24.bytes ∧ ∃ z, i.zero = some z ∧ z.cells.toList = td24.zero := ⟨Try.underlying24, Try.t24, by kernel_rfl, rfl, rfl, _, rfl, rfl⟩
theorem ok25 : Try.prog.underlying 25 = some td25.desc ∧ ∃ i, Try.prog.info? 25 = some i ∧ i.size = td25.sz ∧ i.bytes = td25.bytes ∧ ∃ z, i.zero = some z ∧ z.cells.toList = td25.zero := ⟨Try.underlying25, Try.t25, by kernel_rfl, rfl, rfl, _, rfl, rfl⟩
theorem ok26 : Try.prog.underlying 26 = some td26.desc ∧ ∃ i, Try.prog.info? 26 = some i ∧ i.size = td26.sz ∧ i.bytes = td26.bytes ∧ ∃ z, i.zero = some z ∧ z.cells.toList = td26.zero := ⟨Try.underlying26, Try.t26, by kernel_rfl, rfl, rfl, _, rfl, rfl⟩
theorem ok28 : Try.prog.underlying 28 = some td28.desc ∧ ∃ i, Try.prog.info? 28 = some i ∧ i.size = td28.sz ∧ i.bytes = td28.bytes ∧ ∃ z, i.zero = some z ∧ z.cells.toList = td28.zero := ⟨Try.underlying28, Try.t28, by kernel_rfl, rfl, rfl, _, rfl, rfl⟩
theorem ok30 : Try.prog.underlying 30 = some td30.desc ∧ ∃ i, Try.prog.info? 30 = some i ∧ i.size = td30.sz ∧ i.bytes = td30.bytes ∧ ∃ z, i.zero = some z ∧ z.cells.toList = td30.zero := ⟨Try.underlying30, Try.t30, by kernel_rfl, rfl, rfl, _, rfl, rfl⟩
theorem ok33 : Try.prog.underlying 33 = some td33.desc ∧ ∃ i, Try.prog.info? 33 = some i ∧ i.size = td33.sz ∧ i.bytes = td33.bytes ∧ ∃ z, i.zero = some z ∧ z.cells.toList = td33.zero := ⟨Try.underlying33, Try.t33, by kernel_rfl, rfl, rfl, _, rfl, rfl⟩
theorem ok39 : Try.prog.underlying 39 = some td39.desc ∧ ∃ i, Try.prog.info? 39 = some i ∧ i.size = td39.sz ∧ i.bytes = td39.bytes ∧ ∃ z, i.zero = some z ∧ z.cells.toList = td39.zero := ⟨Try.underlying39, Try.t39, by kernel_rfl, rfl, rfl, _, rfl, rfl⟩
theorem ok40 : Try.prog.underlying 40 = some td40.desc ∧ ∃ i, Try.prog.info? 40 = some i ∧ i.size = td40.sz ∧ i.bytes = td40.bytes ∧ ∃ z, i.zero = some z ∧ z.cells.toList = td40.zero := ⟨Try.underlying40, Try.t40, by kernel_rfl, rfl, rfl, _, rfl, rfl⟩
theorem ok43 : Try.prog.underlying 43 = some td43.desc ∧ ∃ i, Try.prog.info? 43 = some i ∧ i.size = td43.sz ∧ i.bytes = td43.bytes ∧ ∃ z, i.zero = some z ∧ z.cells.toList = td43.zero := ⟨Try.underlying43, Try.t43, by kernel_rfl, rfl, rfl, _, rfl, rfl⟩
theorem ok44 : Try.prog.underlying 44 = some td44.desc ∧ ∃ i, Try.prog.info? 44 = some i ∧ i.size = td44.sz ∧ i.bytes = td44.bytes ∧ ∃ z, i.zero = some z ∧ z.cells.toList = td44.zero := ⟨Try.underlying44, Try.t44, by kernel_rfl, rfl, rfl, _, rfl, rfl⟩
theorem ty_cases {Q : Nat → TD → Prop} (h3 : Q 3 td3) (h4 : Q 4 td4) (h5 : Q 5 td5) (h22 : Q 22 td22) (h24 : Q 24 td24) (h25 : Q 25 td25) (h26 : Q 26 td26) (h28 : Q 28 td28) (h30 : Q 30 td30) (h33 : Q 33 td33) (h39 : Q 39 td39) (h40 : Q 40 td40) (h43 : Q 43 td43) (h44 : Q 44 td44) : ∀ t d, Ty t = some d → Q t d := by
  intro t d h
  unfold Ty at h
  split at h
  · injection h with h; subst h; exact h3
  · injection h with h; subst h; exact h4
  · injection h with h; subst h; exact h5
  · injection h with h; subst h; exact h22
  · injection h with h; subst h; exact h24
  · injection h with h; subst h; exact h25
  · injection h with h; subst h; exact h26
  · injection h with h; subst h; exact h28
  · injection h with h; subst h; exact h30
  · injection h with h; subst h; exact h33
  · injection h with h; subst h; exact h39
  · injection h with h; subst h; exact h40
  · injection h with h; subst h; exact h43
  · injection h with h; subst h; exact h44
  · cases h
noncomputable def env : Env where
  P := Try.prog
  Ty := Ty
  ok := ty_cases (Q := fun t d => Try.prog.underlying t = some d.desc ∧ ∃ i, Try.prog.info? t = some i ∧ i.size = d.sz ∧ i.bytes = d.bytes ∧ ∃ z, i.zero = some z ∧ z.cells.toList = d.zero) ok3 ok4 ok5 ok22 ok24 ok25 ok26 ok28 ok30 ok33 ok39 ok40 ok43 ok44
  zl := ty_cases (Q := fun t d => d.zero.length = d.sz) rfl rfl rfl rfl rfl rfl rfl rfl rfl rfl rfl rfl rfl rfl
  mixed := by kernel_rfl
end Go.Proofs.Ytafieicinmcngaa
