/- The abstract machine's steps in the forms in which a walk meets them, what they leave written out. It speaks of whatever program. -/
import Derived.Test.YtafieicinmcngaaS
namespace Go.AM
open Go Go.RowKit
set_option linter.unusedVariables false

/-! cells, written out -/
section
variable {m : Nat → Option Ob}
theorem oV {x : AV} {u : Value} (hx : x = .c (.v u)) (h : u.oneCell' = true) : One m x [] := hx ▸ .v h
theorem oF {x : AV} {b : Nat} (hx : x = .c (.fl b)) : One m x [] := hx ▸ .fl b
theorem oS {x : AV} {sz : Nat} {xs : List CV} (hx : x = .c (.sl sz xs)) : One m x [] := hx ▸ .sl sz xs
theorem oD {x : AV} {cs : List CV} (hx : x = .c (.ad cs)) : One m x [] := hx ▸ .ad cs
theorem oM {x : AV} {i n sz e : Nat} {xs : List CV} (hx : x = .ms i n) (hm : m i = some (.arr sz e xs)) (hn : xs.length = n) : One m x [i] := hx ▸ .ms hm hn
theorem oL {x : AV} {i off : Nat} {cs : List AV} (hx : x = .loc i off) (hm : m i = some (.box cs)) : One m x [i] := hx ▸ .loc hm
theorem cA {x : AV} {xs : List AV} (hx : x = .agg xs) : Cells m x xs [] := hx ▸ .agg xs
theorem cCv {x : AV} {v : V} (hx : x = .c v.cv) : Cells m x v.ca [] := hx ▸ .cv v
theorem cG {x : AV} {cs : List CV} {ys : List AV} (hx : x = .c (.agg cs)) (hy : cs.map .c = ys) : Cells m x ys [] := by rw [hx, ← hy]; exact .cagg cs
theorem cV {x : AV} {u : Value} (hx : x = .c (.v u)) (h : u.oneCell' = true) : Cells m x [.c (.v u)] [] := by rw [hx]; exact .one (.v h)
theorem cF {x : AV} {b : Nat} (hx : x = .c (.fl b)) : Cells m x [.c (.fl b)] [] := by rw [hx]; exact .one (.fl b)
theorem cS {x : AV} {sz : Nat} {xs : List CV} (hx : x = .c (.sl sz xs)) : Cells m x [.c (.sl sz xs)] [] := by rw [hx]; exact .one (.sl sz xs)
theorem cD {x : AV} {cs : List CV} (hx : x = .c (.ad cs)) : Cells m x [.c (.ad cs)] [] := by rw [hx]; exact .one (.ad cs)
theorem cM {x : AV} {i n sz e : Nat} {xs : List CV} (hx : x = .ms i n) (hm : m i = some (.arr sz e xs)) (hn : xs.length = n) : Cells m x [.ms i n] [i] := by rw [hx]; exact .one (.ms hm hn)
theorem cL {x : AV} {i off : Nat} {cs : List AV} (hx : x = .loc i off) (hm : m i = some (.box cs)) : Cells m x [.loc i off] [i] := by rw [hx]; exact .one (.loc hm)
theorem AllOne.ca (v : V) : AllOne m v.ca [] := by
  have := AllOne.cons (m := m) (One.v (m := m) (u := .int .i64 v.kind) rfl) (.cons (.v (u := .int .i64 v.i) rfl) (.cons (.fl v.f) (.cons (.v (u := .string v.s) rfl) (.cons (.sl 5 (v.l.map V.cv)) .nil))))
  exact this
end

/-- Some cells of a row are written. -/
inductive SetR : List AV → Nat → List AV → List AV → Prop where
  | done (cs : List AV) : SetR cs 0 [] cs
  | put {c y : AV} {cs ys out : List AV} (h : SetR cs 0 ys out) : SetR (c :: cs) 0 (y :: ys) (y :: out)
  | skip {c : AV} {cs ys out : List AV} {k : Nat} (h : SetR cs k ys out) : SetR (c :: cs) (k + 1) ys (c :: out)
theorem SetR.spec {cs : List AV} {k : Nat} {ys out : List AV} (h : SetR cs k ys out) : setMany cs k ys = out ∧ k + ys.length ≤ cs.length := by
  induction h with
  | done cs => exact ⟨by simp [setMany], by simp⟩
  | put h ih => obtain ⟨h1, h2⟩ := ih; exact ⟨by simp [setMany] at h1 ⊢; exact h1, by simp at h2 ⊢; exact h2⟩
  | skip h ih => obtain ⟨h1, h2⟩ := ih; exact ⟨by simp only [setMany] at h1 ⊢; rw [← h1]; simp [Nat.succ_add], by simp at h2 ⊢; omega⟩

/-- The parts of a composite, filled in, written out. -/
inductive FillR (E : Env) (m : Nat → Option Ob) (ev : Operand → AV) (fs : Array Field) : List AV → List (Nat × Operand) → List AV → List Nat → Prop where
  | nil (cells : List AV) : FillR E m ev fs cells [] cells []
  | cons {cells cells' : List AV} {i : Nat} {x : Operand} {ys : List AV} {rest : List (Nat × Operand)} {out : List AV} {fld : Field} {fd : TD} {R R' : List Nat}
      (hf : fs[i]? = some fld) (ht : E.Ty fld.type = some fd) (hc : Cells m (ev x) ys R) (hl : Nat.beq ys.length fd.sz = true) (hs : SetR cells fld.offset ys cells')
      (h : FillR E m ev fs cells' rest out R') : FillR E m ev fs cells ((i, x) :: rest) out (R ++ R')
theorem FillR.fill {E : Env} {m : Nat → Option Ob} {ev : Operand → AV} {fs : Array Field} {cells : List AV} {parts : List (Nat × Operand)} {out : List AV} {R : List Nat} (h : FillR E m ev fs cells parts out R) :
    Fill E m fs cells (parts.map fun p => (p.1, ev p.2)) out R := by
  induction h with
  | nil cells => exact .nil _
  | cons hf ht hc hl hs h ih =>
    obtain ⟨h1, h2⟩ := hs.spec
    have hl := Nat.eq_of_beq_eq_true hl
    exact .cons hf ht hc hl (by rw [← hl]; exact h2) (by rw [h1]; exact ih)
theorem bdR {E : Env} {m : Nat → Option Ob} {ev : Operand → AV} {t : TypeId} {ps : List (Nat × Operand)} {d : TD} {fs : Array Field} {out : List AV} {R : List Nat} (ht : E.Ty t = some d) (hd : d.desc = .struct fs)
    (ha : fs.toList.all (fun f => (E.Ty f.type).isSome) = true) (hf : FillR E m ev fs (d.zero.map fun z => .c (.v z)) ps out R) : StepV E m ev (.build t ⟨ps⟩) (.agg out) R :=
  .build ht hd ha hf.fill

section
variable {E : Env} {C : Ctx} {s : AS} {m : Nat → Option Ob} {ev : Operand → AV}
/-- Cells are written. -/
theorem stR {t : TypeId} {x y : Operand} {i off : Nat} {cells cells' ys : List AV} {d : TD} {R R' : List Nat} (hx : ev x = .loc i off) (hm : m i = some (.box cells)) (ht : E.Ty t = some d)
    (hy : Cells m (ev y) ys R) (h1 : AllOne m ys R') (hl : Nat.beq ys.length d.sz = true) (hs : SetR cells off ys cells') : StepR E m ev none (.store t x y) .any [(i, some (.box cells'))] (i :: (R ++ R')) [] := by
  obtain ⟨e, h2⟩ := hs.spec
  have hl := Nat.eq_of_beq_eq_true hl
  have := StepR.storeL (E := E) hx hm ht hy h1 hl (by rw [← hl]; exact h2)
  rwa [e] at this
/-- A whole variable is written: what is written is all that it holds. -/
theorem stW {t : TypeId} {x y : Operand} {i : Nat} {cells ys : List AV} {d : TD} {R R' : List Nat} (hx : ev x = .loc i 0) (hm : m i = some (.box cells)) (ht : E.Ty t = some d)
    (hc : Nat.beq cells.length d.sz = true) (hy : Cells m (ev y) ys R) (h1 : AllOne m ys R') (hl : Nat.beq ys.length d.sz = true) : StepR E m ev none (.store t x y) .any [(i, some (.box ys))] (i :: (R ++ R')) [] :=
  stA hx hm ht hy h1 (Nat.eq_of_beq_eq_true hl) (Nat.eq_of_beq_eq_true hc)

theorem RunL.op {ops : Array Oper} {k : Nat} {dst : Option Tmp} {op : Op} {ty : TypeId} {pos : String} {after : Array Edge} {g : Option (Nat × Bool)} {l : List Oper} {R F : List Nat} {r : List FP} {s s' : AS} {v : AV} {mw : List (Nat × Option Ob)}
    (hs : StepO E ops s ⟨dst, op, ty, pos, after, g⟩ v mw R F) (hr : RunL E ops (k + 1) l r (s.app dst v mw) s') : RunL E ops k (⟨dst, op, ty, pos, after, g⟩ :: l) (⟨k, R, mw.map (·.1), F⟩ :: r) s s' := .cons hs hr

/-! results -/
variable {m' : Nat → Option Ob}
theorem wE {x : AV} {z y : CV} (hx : x = .c z) (h : z = y) : WkA m m' x (.c y) := by rw [hx, h]; exact .refl _
theorem wF {x : AV} {b : Nat} {u : CV} (hx : x = .c u) (h : LeC u (.fl b)) : WkA m m' x (.c (.fl b)) := by rw [hx]; exact .le h
theorem wNil {x : AV} {sz : Nat} (h0 : Nat.blt 0 sz = true) (hx : x = .c (.v (.slice none 0 0))) : WkA m m' x (.c (.sl sz [])) := by rw [hx]; exact .le (.nil _ (Nat.le_of_ble_eq_true h0))
theorem wNV {x : AV} (hx : x = .c (.v (.slice none 0 0))) : WkA m m' x (.c (.sl 5 (([] : List V).map V.cv))) := wNil rfl hx
theorem wLV {x : AV} {l : List V} (hx : x = .c (.sl 5 (l.map V.cv))) : WkA m m' x (.c (.sl 5 (l.map V.cv))) := by rw [hx]; exact .refl _
theorem wMs {x : AV} {i n sz e : Nat} {xs ys : List CV} (hx : x = .ms i n) (hm : m i = some (.arr sz e xs)) (hn : xs.length = n) (hm' : m' i = none) (h : xs = ys) : WkA m m' x (.c (.sl sz ys)) := by rw [hx, ← h]; exact .ms hm hn hm'
theorem wCv {x : AV} {v u : V} (hx : x = .agg v.ca) (h : v = u) : WkA m m' x (.c u.cv) := by rw [hx, ← h]; exact .cv v
theorem wCv' {x : AV} {v u : V} (hx : x = .c v.cv) (h : v = u) : WkA m m' x (.c u.cv) := by rw [hx, ← h]; exact .refl _
theorem wV5 {x : AV} {k i : Int} {s : ByteArray} {F L : AV} {f : Nat} {l : List V} {u : V} (hx : x = .agg [.c (.v (.int .i64 k)), .c (.v (.int .i64 i)), F, .c (.v (.string s)), L]) (hF : WkA m m' F (.c (.fl f)))
    (hL : WkA m m' L (.c (.sl 5 (l.map V.cv)))) (hu : V.mk k i f s l = u) : WkA m m' x (.c u.cv) := by rw [hx, ← hu]; exact .V5 hF hL
theorem RetA.cellW {m1 : Nat → Option Ob} {t : Tmp} {ty : TypeId} {i : Nat} {cells : List AV} {d : TD} {y : AV} (ht : s.t t = .loc i 0) (hm : s.m i = some (.box cells)) (hd : E.Ty ty = some d) (ha : aggD d.desc = true)
    (hl : Nat.beq cells.length d.sz = true) (h : WkA s.m m1 (.agg cells) y) : RetA E s m1 (.cell t ty) y := by
  have hl := Nat.eq_of_beq_eq_true hl
  refine .cellA ht hm hd ha (by omega) ?_
  rw [List.drop_zero, ← hl, List.take_length]; exact h
theorem retC {r : ResultVar} {x : CV} {rs : List ResultVar} {xs : List CV} (h : RetA E s (mkM []) r (.c x)) (hs : retQ E rs xs .ret s) : retQ E (r :: rs) (x :: xs) .ret s := ⟨hs.1, RetL.cons h hs.2⟩
theorem retN : retQ E [] [] .ret s := ⟨fun i o h => (by cases h), RetL.nil⟩
theorem retP {rvs : List ResultVar} {rs : List AV} {b : List (Nat × Ob)} (hm : WkM s.m (mkM b) (mkM b)) (hs : RetL E s (mkM b) rvs rs) : retO E rvs rs b .ret s := ⟨hm, hs⟩

/-! arguments -/
theorem tE {x : AV} {y : CV} (hx : x = .c y) : ToC x y := by rw [hx]; exact .c (.refl _)
theorem tCv {x : AV} {v : V} (hx : x = .agg v.ca) : ToC x v.cv := by rw [hx]; exact .cv v
theorem tV5 {x : AV} {k i : Int} {s : ByteArray} {F L : CV} {f : Nat} {l : List V} (hx : x = .agg [.c (.v (.int .i64 k)), .c (.v (.int .i64 i)), .c F, .c (.v (.string s)), .c L]) (hF : LeC F (.fl f)) (hL : LeC L (.sl 5 (l.map V.cv))) :
    ToC x (V.mk k i f s l).cv := by rw [hx]; exact .V5 hF hL
theorem tNil {x : AV} {sz : Nat} (h0 : Nat.blt 0 sz = true) (hx : x = .c (.v (.slice none 0 0))) : ToC x (.sl sz []) := by rw [hx]; exact .c (.nil _ (Nat.le_of_ble_eq_true h0))
theorem tNV {x : AV} (hx : x = .c (.v (.slice none 0 0))) : ToC x (.sl 5 (([] : List V).map V.cv)) := tNil rfl hx
theorem LeC.nv : LeC (.v (.slice none 0 0)) (.sl 5 (([] : List V).map V.cv)) := .nil _ (by decide)
theorem tFn0 {x : AV} {f : FuncId} (hx : x = .c (.v (.func (.func f) #[] #[]))) : ToC x (.fn f []) := by rw [hx]; exact .c (.fn0 f)
theorem tF {x : AV} {b : Nat} {u : CV} (hx : x = .c u) (h : LeC u (.fl b)) : ToC x (.fl b) := by rw [hx]; exact .c h
end
/-! states written out, for loops -/
def mkT : List (Nat × AV) → Nat → AV
  | [] => t0
  | (d, v) :: r => putT (mkT r) (some d) v
section
variable {m m' : Nat → Option Ob} {t t' : Nat → AV} {U : List Nat}
theorem wr {x y : AV} (h : x = y) : WkA m m' x y := h ▸ .refl _
theorem wkB : WkT m m' t (mkT []) := WkT.base
theorem wkP {d : Nat} {v : AV} {r : List (Nat × AV)} (hd : WkA m m' (t d) v) (h : WkT m m' t (mkT r)) : WkT m m' t (mkT ((d, v) :: r)) := h.put hd
theorem wkMB : WkM m m' (mkM []) := WkM.base
theorem wkMP {d : Nat} {o o' : Ob} {r : List (Nat × Ob)} (ho : m d = some o) (hw : WkO m m' o o') (h : WkM m m' (mkM r)) : WkM m m' (mkM ((d, o') :: r)) := h.put ho hw
theorem wkOb {xs ys : List AV} (hl : xs.length = ys.length) (h : ∀ (j : Nat) (x y : AV), xs[j]? = some x → ys[j]? = some y → WkA m m' x y) : WkO m m' (.box xs) (.box ys) := ⟨hl, h⟩
theorem wkO1 {x y : AV} (h : WkA m m' x y) : WkO m m' (.box [x]) (.box [y]) := ⟨rfl, fun j a b ha hb => by
  cases j with
  | zero => simp at ha hb; subst ha; subst hb; exact h
  | succ j => simp at ha⟩
theorem wkB0 : WkO m m' (.box []) (.box []) := ⟨rfl, fun j x y hx _ => by simp at hx⟩
theorem wkBx {x y : AV} {xs ys : List AV} (h : WkA m m' x y) (hs : WkO m m' (.box xs) (.box ys)) : WkO m m' (.box (x :: xs)) (.box (y :: ys)) := ⟨by have := hs.1; simp [this], fun j a b ha hb => by
  cases j with
  | zero => simp at ha hb; subst ha; subst hb; exact h
  | succ j => exact hs.2 j a b (by simpa using ha) (by simpa using hb)⟩
theorem wkOa {sz e : Nat} {xs ys : List CV} (h : xs = ys) : WkO m m' (.arr sz e xs) (.arr sz e ys) := ⟨rfl, rfl, h⟩
theorem wkOr {o o' : Ob} (h : o = o') : WkO m m' o o' := h ▸ .same _
theorem wkS {s : AS} {ts : List (Nat × AV)} {ms : List (Nat × Ob)} (ht : WkT s.m (mkM ms) s.t (mkT ts)) (hm : WkM s.m (mkM ms) (mkM ms)) : Wk s ⟨mkT ts, mkM ms⟩ := ⟨ht, hm⟩
theorem frB : Fresh U ⟨mkT [], mkM []⟩ := fun d _ => noId.t0 d
theorem frT {d : Nat} {v : AV} {r : List (Nat × AV)} {ms : List (Nat × Ob)} (hv : ∀ d, d ∉ U → NoId d v) (h : Fresh U ⟨mkT r, mkM ms⟩) : Fresh U ⟨mkT ((d, v) :: r), mkM ms⟩ := fun k hk => noId.put (h k hk) (hv k hk)
theorem frM {d : Nat} {o : Ob} {ts : List (Nat × AV)} {r : List (Nat × Ob)} (ho : ∀ d, d ∉ U → o.noId d) (h : Fresh U ⟨mkT ts, mkM r⟩) : Fresh U ⟨mkT ts, mkM ((d, o) :: r)⟩ := fun k hk => noId.upd (h k hk) (ho k hk)
theorem fvC {x : CV} : ∀ d, d ∉ U → NoId d (.c x) := fun d _ => .c x
theorem fvA : ∀ d, d ∉ U → NoId d .any := fun d _ => .any
theorem inU {i : Nat} (h : U.contains i = true) : ∀ d, d ∉ U → i ≠ d := fun d hd e => hd (e ▸ by simpa using h)
theorem fvL {i off : Nat} (h : U.contains i = true) : ∀ d, d ∉ U → NoId d (.loc i off) := fun d hd => .loc (inU h d hd)
theorem fvM {i n : Nat} (h : U.contains i = true) : ∀ d, d ∉ U → NoId d (.ms i n) := fun d hd => .ms (inU h d hd)
theorem fvG {xs : List AV} (h : ∀ d, d ∉ U → ∀ x ∈ xs, NoId d x) : ∀ d, d ∉ U → NoId d (.agg xs) := fun d hd => .agg fun j y hy => h d hd y (List.mem_of_getElem? hy)
theorem fvN : ∀ d, d ∉ U → ∀ x ∈ ([] : List AV), NoId d x := fun d _ x hx => by simp at hx
theorem fvK {y : AV} {xs : List AV} (hy : ∀ d, d ∉ U → NoId d y) (h : ∀ d, d ∉ U → ∀ x ∈ xs, NoId d x) : ∀ d, d ∉ U → ∀ x ∈ y :: xs, NoId d x := fun d hd x hx => by
  rcases List.mem_cons.1 hx with rfl | hx
  · exact hy d hd
  · exact h d hd x hx
theorem fvCa (v : V) : ∀ d, d ∉ U → ∀ x ∈ v.ca, NoId d x := fun d _ x hx => by
  simp only [V.ca, List.mem_cons, List.not_mem_nil, or_false] at hx
  rcases hx with rfl | rfl | rfl | rfl | rfl <;> exact .c _
theorem foB {xs : List AV} (h : ∀ d, d ∉ U → ∀ x ∈ xs, NoId d x) : ∀ d, d ∉ U → Ob.noId d (.box xs) := fun d hd j y hy => h d hd y (List.mem_of_getElem? hy)
theorem foA {sz e : Nat} {xs : List CV} : ∀ d, d ∉ U → Ob.noId d (.arr sz e xs) := fun d _ => trivial
end
/-! what its reading tells of a value -/
theorem Pure.fact {P : Program} {f : FuncId} {args rs : List CV} {φ : Prop} (j : Nat) {x : CV} (hx : args[j]? = some x) (hb : HasBody P f) (hφ : ∀ (w : World) (L : Nat → Prop) (u : Value), Rep w L u x → φ) (h : φ → Pure P f args rs) : Pure P f args rs :=
  ⟨hb, fun w L vs hl hr hL => (h (hφ w L _ (hr j x hx))).2 w L vs hl hr hL⟩
theorem sl_len {w : World} {L : Nat → Prop} {u : Value} {sz : Nat} {xs : List CV} (h : Rep w L u (.sl sz xs)) : xs.length ≤ maxLen := by
  cases h with | sl g hn hcap hmax => omega
theorem vl_len {w : World} {L : Nat → Prop} {u : Value} {l : List V} (h : Rep w L u (.sl 5 (l.map V.cv))) : l.length ≤ maxLen := by simpa using sl_len h
theorem cv_len {w : World} {L : Nat → Prop} {u : Value} {v : V} (h : Rep w L u v.cv) : v.l.length ≤ maxLen := by
  rw [V.cv_eq] at h
  cases h with | agg hn hx => exact vl_len (hx 4 _ rfl)
theorem wrap_id {n : Int} (h1 : -9223372036854775808 ≤ n) (h2 : n < 9223372036854775808) : IntKind.i64.wrap n = n := by
  simp only [IntKind.wrap, IntKind.signed, IntKind.bits]
  simp
  omega
theorem wrapS {k n : Nat} (hk : k < n) (hn : n ≤ maxLen) : IntKind.i64.wrap ((k : Int) + 1) = ((k + 1 : Nat) : Int) := by
  simp only [maxLen] at hn
  rw [wrap_id (by omega) (by omega)]; rfl
theorem ToCs.idc (cs : List CV) : ToCs (cs.map .c) cs := ⟨by simp, fun j x y hx hy => by
  rw [List.getElem?_map, hy] at hx; cases hx; exact .c (.refl _)⟩
/-! slices written out -/
inductive ToVs : List AV → List V → Prop where
  | nil : ToVs [] []
  | cons {x : AV} {v : V} {xs : List AV} {vs : List V} (h : ToC x v.cv) (hs : ToVs xs vs) : ToVs (x :: xs) (v :: vs)
theorem ToVs.cs {xs : List AV} {vs : List V} (h : ToVs xs vs) : ToCs xs (vs.map V.cv) := by
  induction h with
  | nil => exact .nil
  | cons h hs ih => exact .cons h ih
theorem bsV {E : Env} {m : Nat → Option Ob} {ev : Operand → AV} {t : TypeId} {e n : Nat} {ps : List (Nat × Operand)} {vs : List V} {d de : TD} (hx : ToVs (ps.map fun p => ev p.2) vs) (ht : E.Ty t = some d) (hd : d.desc = .slice e) (he : E.Ty e = some de) (hs : de.sz = 5)
    (hn : n = vs.length) (hi : ps.map (·.1) = List.range n) (hb : Nat.ble n 1000 = true) : StepV E m ev (.buildSlice t n ⟨ps⟩) (.c (.sl 5 (vs.map V.cv))) [] := by
  subst hn
  have := StepV.bslice (E := E) (m := m) (ev := ev) (t := t) (parts := ⟨ps⟩) (xs := vs.map V.cv) ht hd he hs rfl (by simpa using hi) hx.cs (fun x hx => by
    obtain ⟨v, _, rfl⟩ := List.mem_map.1 hx; exact ⟨V.cells_len v, V.plain v⟩) (by have := Nat.le_of_ble_eq_true hb; simp; omega)
  simpa using this
theorem map_cells_one (vs : List V) : ∀ y ∈ vs.map V.cv, ∀ c ∈ y.cells, c.one = true := fun y hy => by
  obtain ⟨v, _, rfl⟩ := List.mem_map.1 hy; exact V.one v
/-- Values are added to a list of the call's own: to an empty one, to one that it has. -/
theorem apN {E : Env} {m : Nat → Option Ob} {ev : Operand → AV} {d : Tmp} {t : TypeId} {x y : Operand} {e : Nat} {ys : List V} {td de : TD} (hx : ev x = .c (.v (.slice none 0 0))) (hy : ev y = .c (.sl 5 (ys.map V.cv)))
    (ht : E.Ty t = some td) (hd : td.desc = .slice e) (he : E.Ty e = some de) (hs : Nat.beq de.sz 5 = true) (hbb : Nat.beq de.bytes 64 = true) (hb : ys.length ≤ 1000000) :
    StepR E m ev (some d) (.call { callee := .builtin .append, args := #[x, y], argTypes := #[t, t] }) (.ms d ys.length) [(d, some (.arr 5 e (ys.map V.cv)))] [] [d] := by
  have h1 := Nat.eq_of_beq_eq_true hs
  have h2 := Nat.eq_of_beq_eq_true hbb
  have := StepR.appN (E := E) (m := m) (d := d) hx hy ht hd he h1 (by omega) (by rw [h2]; simp; omega) (by omega) (map_cells_one ys)
  simpa using this
theorem apM {E : Env} {m : Nat → Option Ob} {ev : Operand → AV} {d : Tmp} {t : TypeId} {x y : Operand} {i n e : Nat} {xs ys : List V} {td de : TD} (hx : ev x = .ms i n) (hm : m i = some (.arr 5 e (xs.map V.cv))) (hn : xs.length = n) (hy : ev y = .c (.sl 5 (ys.map V.cv)))
    (ht : E.Ty t = some td) (hd : td.desc = .slice e) (he : E.Ty e = some de) (hs : Nat.beq de.sz 5 = true) (hbb : Nat.beq de.bytes 64 = true) (hb : n + ys.length ≤ 1000000) (h0 : 0 < ys.length) :
    StepR E m ev (some d) (.call { callee := .builtin .append, args := #[x, y], argTypes := #[t, t] }) (.ms d (n + ys.length)) [(i, none), (d, some (.arr 5 e ((xs ++ ys).map V.cv)))] [i] (bif Nat.beq i d then [] else [d]) := by
  have h1 := Nat.eq_of_beq_eq_true hs
  have h2 := Nat.eq_of_beq_eq_true hbb
  have := StepR.appM (E := E) (m := m) (d := d) hx hm (by simpa using hn) hy ht hd he h1 (by rw [h2]; simp; omega) (by omega) (map_cells_one ys) (by simpa using h0)
  simpa using this
theorem wX {m m' : Nat → Option Ob} {x : AV} {b : Nat} (hx : x = .c (.fl b)) (h : ¬ fnan b) : WkA m m' x (.c (.v (.float .f64 b))) := by rw [hx]; exact .le (.ex h)
/-! lists of whatever elements -/
structure Elt (α : Type) where
  g : α → CV
  sz : Nat
  pos : 0 < sz
  len : ∀ a, (g a).cells.length = sz
  plain : ∀ a, (g a).plain = true
  one : ∀ a, ∀ c ∈ (g a).cells, c.one = true
inductive ToGs {α : Type} (G : Elt α) : List AV → List α → Prop where
  | nil : ToGs G [] []
  | cons {x : AV} {v : α} {xs : List AV} {vs : List α} (h : ToC x (G.g v)) (hs : ToGs G xs vs) : ToGs G (x :: xs) (v :: vs)
section
variable {α : Type} {G : Elt α}
theorem ToGs.cs {xs : List AV} {vs : List α} (h : ToGs G xs vs) : ToCs xs (vs.map G.g) := by
  induction h with
  | nil => exact .nil
  | cons h hs ih => exact .cons h ih
theorem bsG {E : Env} {m : Nat → Option Ob} {ev : Operand → AV} {t : TypeId} {e n : Nat} {ps : List (Nat × Operand)} {vs : List α} {d de : TD} (hx : ToGs G (ps.map fun p => ev p.2) vs) (ht : E.Ty t = some d) (hd : d.desc = .slice e) (he : E.Ty e = some de) (hs : de.sz = G.sz)
    (hn : n = vs.length) (hi : ps.map (·.1) = List.range n) (hb : Nat.ble n 1000 = true) (h8 : Nat.ble G.sz 8 = true) : StepV E m ev (.buildSlice t n ⟨ps⟩) (.c (.sl G.sz (vs.map G.g))) [] := by
  subst hn
  have h1 := Nat.le_of_ble_eq_true hb
  have h2 := Nat.le_of_ble_eq_true h8
  have h3 : vs.length * G.sz ≤ 1000 * 8 := Nat.mul_le_mul h1 h2
  have := StepV.bslice (E := E) (m := m) (ev := ev) (t := t) (parts := ⟨ps⟩) (xs := vs.map G.g) ht hd he hs (by have := G.pos; cases hb0 : Nat.beq G.sz 0 with | false => rfl | true => have := Nat.eq_of_beq_eq_true hb0; omega) (by simpa using hi) hx.cs (fun x hx => by
    obtain ⟨v, _, rfl⟩ := List.mem_map.1 hx; exact ⟨G.len v, G.plain v⟩) (by simp; omega)
  simpa using this
theorem map_one (vs : List α) : ∀ y ∈ vs.map G.g, ∀ c ∈ y.cells, c.one = true := fun y hy => by
  obtain ⟨v, _, rfl⟩ := List.mem_map.1 hy; exact G.one v
theorem apNG {E : Env} {m : Nat → Option Ob} {ev : Operand → AV} {d : Tmp} {t : TypeId} {x y : Operand} {e : Nat} {ys : List α} {td de : TD} (hx : ev x = .c (.v (.slice none 0 0))) (hy : ev y = .c (.sl G.sz (ys.map G.g)))
    (ht : E.Ty t = some td) (hd : td.desc = .slice e) (he : E.Ty e = some de) (hs : Nat.beq de.sz G.sz = true) (hbb : Nat.ble de.bytes 128 = true) (hb0 : Nat.ble 1 de.bytes = true) (hb : ys.length ≤ 1000000) :
    StepR E m ev (some d) (.call { callee := .builtin .append, args := #[x, y], argTypes := #[t, t] }) (.ms d ys.length) [(d, some (.arr G.sz e (ys.map G.g)))] [] [d] := by
  have h1 := Nat.eq_of_beq_eq_true hs
  have h2 := Nat.le_of_ble_eq_true hbb
  have h3 := Nat.le_of_ble_eq_true hb0
  have h4 : ys.length * de.bytes ≤ 1000000 * 128 := Nat.mul_le_mul hb h2
  have := StepR.appN (E := E) (m := m) (d := d) hx hy ht hd he h1 G.pos (by simp; omega) (by omega) (map_one ys)
  simpa using this
theorem apMG {E : Env} {m : Nat → Option Ob} {ev : Operand → AV} {d : Tmp} {t : TypeId} {x y : Operand} {i n e : Nat} {xs ys : List α} {td de : TD} (hx : ev x = .ms i n) (hm : m i = some (.arr G.sz e (xs.map G.g))) (hn : xs.length = n) (hy : ev y = .c (.sl G.sz (ys.map G.g)))
    (ht : E.Ty t = some td) (hd : td.desc = .slice e) (he : E.Ty e = some de) (hs : Nat.beq de.sz G.sz = true) (hbb : Nat.ble de.bytes 128 = true) (hb0 : Nat.ble 1 de.bytes = true) (hb : n + ys.length ≤ 1000000) (h0 : 0 < ys.length) :
    StepR E m ev (some d) (.call { callee := .builtin .append, args := #[x, y], argTypes := #[t, t] }) (.ms d (n + ys.length)) [(i, none), (d, some (.arr G.sz e ((xs ++ ys).map G.g)))] [i] (bif Nat.beq i d then [] else [d]) := by
  have h1 := Nat.eq_of_beq_eq_true hs
  have h2 := Nat.le_of_ble_eq_true hbb
  have h3 := Nat.le_of_ble_eq_true hb0
  have h4 : (n + ys.length) * de.bytes ≤ 1000000 * 128 := Nat.mul_le_mul hb h2
  have := StepR.appM (E := E) (m := m) (d := d) hx hm (by simpa using hn) hy ht hd he h1 (by simp; omega) (by omega) (map_one ys) (by simpa using h0)
  simpa using this
theorem lnG {E : Env} {m : Nat → Option Ob} {ev : Operand → AV} {t : TypeId} {x : Operand} {l : List α} {e : Nat} {d : TD} (hx : ev x = .c (.sl G.sz (l.map G.g))) (ht : E.Ty t = some d) (hd : d.desc = .slice e) :
    StepV E m ev (.call { callee := .builtin .len, args := #[x], argTypes := #[t] }) (.c (.v (.int .i64 l.length))) [] := by
  have := StepV.lenC (E := E) (m := m) hx ht hd
  rwa [List.length_map] at this
theorem gl_len {w : World} {L : Nat → Prop} {u : Value} {l : List α} (h : Rep w L u (.sl G.sz (l.map G.g))) : l.length ≤ maxLen := by simpa using sl_len h
theorem gy {l : List α} {k : Nat} {y : α} (h : l[k]? = some y) : (l.map G.g)[k]? = some (G.g y) := by rw [List.getElem?_map, h]; rfl
end
/-- Texts, whole numbers, floats. -/
def GS : Elt ByteArray := ⟨fun s => .v (.string s), 1, by decide, fun _ => rfl, fun _ => rfl, fun a c hc => by simp [CV.cells] at hc; subst hc; rfl⟩
def GI (k : IntKind) : Elt Int := ⟨fun n => .v (.int k n), 1, by decide, fun _ => rfl, fun _ => rfl, fun a c hc => by simp [CV.cells] at hc; subst hc; rfl⟩
def GF : Elt Nat := ⟨fun n => .fl n, 1, by decide, fun _ => rfl, fun _ => rfl, fun a c hc => by simp [CV.cells] at hc; subst hc; rfl⟩
theorem wG {m m' : Nat → Option Ob} {α : Type} {G : Elt α} {x : AV} {i n e sz : Nat} {xs ys : List α} (hx : x = .ms i n) (hm : m i = some (.arr sz e (xs.map G.g))) (hn : xs.length = n) (hm' : m' i = none) (hs : sz = G.sz) (h : xs = ys) :
    WkA m m' x (.c (.sl G.sz (ys.map G.g))) := by subst hs; exact wMs hx hm (by simpa using hn) hm' (by rw [h])
end Go.AM
