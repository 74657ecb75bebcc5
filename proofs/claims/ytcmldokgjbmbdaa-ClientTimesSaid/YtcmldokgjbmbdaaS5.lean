/- The abstract machine's further steps: rows of api.Value of the call's own; what a call may look at. It speaks of whatever program. -/
import Derived.Test.YtcmldokgjbmbdaaS4
namespace Go.AM
open Go Go.RowKit
set_option linter.unusedVariables false
set_option linter.unusedSimpArgs false

section
variable {E : Env} {C : Ctx} {s : AS} {Q : Ex → AS → Prop} {m : Nat → Option Ob} {ev : Operand → AV} {dst : Option Tmp}
theorem ixMV {t : TypeId} {x ix : Operand} {i n0 e e' : Nat} {l : List V} {k : IntKind} {n : Int} {d de : TD} (hx : ev x = .ms i n0) (hm : m i = some (.arr 5 e' (l.map V.cv))) (hn : l.length = n0)
    (hi : ev ix = .c (.v (.int k n))) (h0 : 0 ≤ n) (hlt : n < n0) (ht : E.Ty t = some d) (hd : d.desc = .slice e) (he : E.Ty e = some de) (hs : de.sz = 5) : StepV E m ev (.indexAddr t x ix) (.el i n0 5 n.toNat 0) [i] :=
  .idxM hx hm (by simpa using hn) hi h0 hlt ht hd he hs
theorem lnMV {t : TypeId} {x : Operand} {i n e e' : Nat} {l : List V} {d : TD} (hx : ev x = .ms i n) (hm : m i = some (.arr 5 e' (l.map V.cv))) (hn : l.length = n) (ht : E.Ty t = some d) (hd : d.desc = .slice e) :
    StepV E m ev (.call { callee := .builtin .len, args := #[x], argTypes := #[t] }) (.c (.v (.int .i64 n))) [i] := .lenM hx hm (by simpa using hn) ht hd
theorem cvAt {l : List V} {k : Nat} {v : V} (hk : l[k]? = some v) : (l.map V.cv)[k]? = some v.cv := by rw [List.getElem?_map, hk]; rfl
/-- A field of an element, the element whole. -/
theorem ldEV {t : TypeId} {x : Operand} {i n k off e : Nat} {l : List V} {v : V} {y : CV} {d : TD} (hx : ev x = .el i n 5 k off) (hm : m i = some (.arr 5 e (l.map V.cv))) (hn : l.length = n) (hk : l[k]? = some v) (hy : v.cc[off]? = some y)
    (ht : E.Ty t = some d) (hd : aggD d.desc = false) : StepV E m ev (.load t x) (.c y) [i] :=
  .loadE hx hm (by simpa using hn) (cvAt hk) ht hd (by rw [V.cells_cv]; exact hy)
theorem ldEVA {t : TypeId} {x : Operand} {i n k e : Nat} {l : List V} {v : V} {d : TD} (hx : ev x = .el i n 5 k 0) (hm : m i = some (.arr 5 e (l.map V.cv))) (hn : l.length = n) (hk : l[k]? = some v)
    (ht : E.Ty t = some d) (hd : aggD d.desc = true) (hl : Nat.beq d.sz 5 = true) : StepV E m ev (.load t x) (.c v.cv) [i] := by
  have hl := Nat.eq_of_beq_eq_true hl
  have := StepV.loadEA (E := E) hx hm (by simpa using hn) (cvAt hk) ht hd (by rw [V.cells_len]; omega)
  rw [hl, List.drop_zero, List.take_of_length_le (by rw [V.cells_len]; exact Nat.le_refl _), V.cells_cv] at this
  rw [V.cv_eq]; exact this
theorem V.cc_len (v : V) : v.cc.length = 5 := rfl
theorem stEV {t : TypeId} {x y : Operand} {i n k off e : Nat} {l : List V} {v u : V} {z : CV} {d : TD} (hx : ev x = .el i n 5 k off) (hm : m i = some (.arr 5 e (l.map V.cv))) (hn : l.length = n) (hk : l[k]? = some v) (hy : ev y = .c z) (ha : z.atom = true) (h1 : z.one = true) (hoff : Nat.blt off 5 = true)
    (hu : v.cc.set off z = u.cc) (ht : E.Ty t = some d) (hd : Nat.beq d.sz 1 = true) : StepR E m ev none (.store t x y) .any [(i, some (.arr 5 e ((l.set k u).map V.cv)))] [i] [] := by
  have hd := Nat.eq_of_beq_eq_true hd
  have hoff := Nat.le_of_ble_eq_true hoff
  have hcells : Cells m (ev y) [.c z] [] := by
    rw [hy]
    cases z with
    | v u => exact .one (.v (by simpa [CV.one] using h1))
    | fl b => exact .one (.fl b)
    | sl sz xs => simp [CV.atom] at ha
    | ad cs => simp [CV.atom] at ha
    | agg cs => simp [CV.atom] at ha
    | fn f cs => simp [CV.atom] at ha
  have := StepR.storeE (E := E) (x1 := u.cv) (zs := [z]) hx hm (by simpa using hn) (cvAt hk) ht hcells (.cons (.c (.refl _)) .nil) (by simp [h1]) (by simp [hd]) (by rw [V.cells_len]; omega) (by
    rw [V.cells_cv, V.cells_cv, ← hu, List.set_eq_take_append_cons_drop, if_pos (by rw [V.cc_len]; omega)]; simp)
  rwa [← List.map_set] at this
theorem stEVA {t : TypeId} {x y : Operand} {i n k e : Nat} {l : List V} {u : V} {d : TD} (hx : ev x = .el i n 5 k 0) (hm : m i = some (.arr 5 e (l.map V.cv))) (hn : l.length = n) (hk : k < n) (hy : ev y = .c u.cv ∨ ev y = .agg u.ca)
    (ht : E.Ty t = some d) (hd : Nat.beq d.sz 5 = true) : StepR E m ev none (.store t x y) .any [(i, some (.arr 5 e ((l.set k u).map V.cv)))] [i] [] := by
  have hd := Nat.eq_of_beq_eq_true hd
  have hkl : k < l.length := by omega
  have hcells : Cells m (ev y) u.ca [] := by
    rcases hy with hy | hy
    · rw [hy]; exact .cv u
    · rw [hy]; exact .agg _
  have hto : ToCs u.ca u.cc := .cons (.c (.refl _)) (.cons (.c (.refl _)) (.cons (.c (.refl _)) (.cons (.c (.refl _)) (.cons (.c (.refl _)) .nil))))
  have := StepR.storeE (E := E) (x1 := u.cv) (zs := u.cc) hx hm (by simpa using hn) (cvAt (List.getElem?_eq_getElem hkl)) ht hcells hto (by rw [List.all_eq_true]; intro c hc; exact V.one u c (by rw [V.cells_cv]; exact hc)) (by rw [V.cc_len, hd]) (by rw [V.cells_len, hd]; omega) (by
    rw [V.cells_cv, V.cells_cv, List.take_zero, List.nil_append, V.cc_len, List.drop_eq_nil_of_le (by rw [V.cc_len]; omega), List.append_nil])
  rwa [← List.map_set] at this

/-! what a call may look at -/
theorem tbE {x : AV} {y : CV} {xs : List AV} {cs : List CV} {R : List Nat} (h : ToC x y) (hs : ToB m xs cs R) : ToB m (x :: xs) (y :: cs) R := .c h hs
theorem tbM {x : AV} {i n sz e : Nat} {zs : List CV} {xs : List AV} {ys : List CV} {R : List Nat} (hx : x = .ms i n) (hm : m i = some (.arr sz e zs)) (hn : zs.length = n) (hs : ToB m xs ys R) : ToB m (x :: xs) (.sl sz zs :: ys) (i :: R) := by
  rw [hx]; exact .ms hm hn hs
theorem tbMV {x : AV} {i n e : Nat} {l : List V} {xs : List AV} {ys : List CV} {R : List Nat} (hx : x = .ms i n) (hm : m i = some (.arr 5 e (l.map V.cv))) (hn : l.length = n) (hs : ToB m xs ys R) : ToB m (x :: xs) (.sl 5 (l.map V.cv) :: ys) (i :: R) :=
  tbM hx hm (by simpa using hn) hs
theorem tbV {x : AV} {k a : Int} {F : CV} {f : Nat} {b : ByteArray} {i n e : Nat} {l : List V} {xs : List AV} {ys : List CV} {R : List Nat} (hx : x = .agg [.c (.v (.int .i64 k)), .c (.v (.int .i64 a)), .c F, .c (.v (.string b)), .ms i n])
    (hF : LeC F (.fl f)) (hm : m i = some (.arr 5 e (l.map V.cv))) (hn : l.length = n) (hs : ToB m xs ys R) : ToB m (x :: xs) ((V.mk k a f b l).cv :: ys) ([i] ++ R) := by
  rw [hx, V.cv_eq]
  exact .agg (.c (.c (.refl _)) (.c (.c (.refl _)) (.c (.c hF) (.c (.c (.refl _)) (.ms hm (by simpa using hn) .nil))))) hs
theorem cB {callee : Operand} {args : Array Operand} {ats : Array TypeId} {f : FuncId} {cs rs : List CV} {R : List Nat} (hc : ev callee = .c (.v (.func (.func f) #[] #[]))) (hp : Pure E.P f cs rs) (hs : rs.all CV.scalar = true)
    (hx : ToB m (args.toList.map ev) cs R) : StepV E m ev (.call { callee := .value callee, args := args, argTypes := ats }) (resAV rs) R :=
  .callB (us := []) hc (by simpa using hx) hp hs
end
end Go.AM
