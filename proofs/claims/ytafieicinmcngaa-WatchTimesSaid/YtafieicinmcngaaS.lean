/- The abstract machine's steps in the forms in which a walk meets them. It speaks of whatever program. -/
import Derived.Test.YtafieicinmcngaaV
namespace Go.AM
open Go Go.RowKit
set_option linter.unusedVariables false

/-- The operations of a region, one by one, k of them done. -/
inductive RunL (E : Env) (ops : Array Oper) : Nat → List Oper → List FP → AS → AS → Prop where
  | nil {k : Nat} {s : AS} : RunL E ops k [] [] s s
  | cons {k : Nat} {o : Oper} {l : List Oper} {R F : List Nat} {r : List FP} {s s' : AS} {v : AV} {mw : List (Nat × Option Ob)} (hs : StepO E ops s o v mw R F)
      (hr : RunL E ops (k + 1) l r (s.app o.dst v mw) s') : RunL E ops k (o :: l) (⟨k, R, mw.map (·.1), F⟩ :: r) s s'
theorem RunL.run {E : Env} {ops : Array Oper} {k : Nat} {l : List Oper} {r : List FP} {s s' : AS} (h : RunL E ops k l r s s') : (∀ j, l[j]? = ops[k + j]?) → Run E ops r s s' ∧ r.map (·.i) = List.range' k l.length := by
  induction h with
  | nil => exact fun _ => ⟨.nil _, rfl⟩
  | cons hs hr ih =>
    intro hl
    obtain ⟨h1, h2⟩ := ih fun j => by have := hl (j + 1); simp at this; rw [this]; congr 1; omega
    refine ⟨.cons (by have := hl 0; simpa using this.symm) hs rfl h1, ?_⟩
    simp [h2, List.range'_succ]

section
variable {E : Env} {C : Ctx} {s : AS} {Q : Ex → AS → Prop}

/-- Of other objects than those of U nothing is told. -/
def Fresh (U : List Nat) (s : AS) : Prop := ∀ d, d ∉ U → s.noId d
def fpsF (fps : List FP) : List Nat := fps.flatMap (·.F)
theorem RunL.noId {ops : Array Oper} {k : Nat} {l : List Oper} {r : List FP} {s s' : AS} {d : Nat} (h : RunL E ops k l r s s') : s.noId d → d ∉ fpsF r → s'.noId d := by
  induction h with
  | nil => exact fun h _ => h
  | cons hs hr ih =>
    intro hn hd
    simp only [fpsF, List.flatMap_cons, List.mem_append, not_or] at hd
    exact ih (hs.noId hn hd.1) hd.2
theorem RunL.fresh {ops : Array Oper} {k : Nat} {l : List Oper} {r : List FP} {s s' : AS} {U : List Nat} (h : RunL E ops k l r s s') (hU : Fresh U s) : Fresh (fpsF r ++ U) s' := by
  intro d hd
  simp only [List.mem_append, not_or] at hd
  exact h.noId (hU d hd.2) hd.1
theorem fresh_of {U : List Nat} {fps : List FP} (hU : Fresh U s) (h : disj (fpsF fps) U = true) : ∀ x ∈ fps, ∀ d ∈ x.F, s.noId d := by
  intro x hx d hd
  exact hU d (disj_spec h d (List.mem_flatMap.2 ⟨x, hx, hd⟩))
theorem CQ.rD {U : List Nat} (hU : Fresh U s) {id : Nat} {l : List Oper} {fps : List FP} {s' : AS} (hr : RunL E ⟨l⟩ 0 l fps s s') (hc : ((textOk ⟨l⟩ && dstOk C.n ⟨l⟩ && chkP ⟨l⟩ (masks l) fps) && disj (fpsF fps) U) = true)
    (h : Fresh (fpsF fps ++ U) s' → Q .normal s') : CQ E C (.region id ⟨l⟩ true) s Q := by
  obtain ⟨h1, h2⟩ := hr.run fun j => by simp
  rw [Bool.and_eq_true] at hc
  exact .regD h1 (by rw [h2, List.range_eq_range']) hc.1 (fresh_of hU hc.2) (h (hr.fresh hU))
theorem CQ.rT {U : List Nat} (hU : Fresh U s) {id : Nat} {l : List Oper} {fps : List FP} {s' : AS} (hr : RunL E ⟨l⟩ 0 l fps s s') (hc : ((dstOk C.n ⟨l⟩ && chkF fps) && disj (fpsF fps) U) = true)
    (h : Fresh (fpsF fps ++ U) s' → Q .normal s') : CQ E C (.region id ⟨l⟩ false) s Q := by
  obtain ⟨h1, h2⟩ := hr.run fun j => by simp
  rw [Bool.and_eq_true] at hc
  exact .regT h1 (by rw [h2, List.range_eq_range']) hc.1 (fresh_of hU hc.2) (h (hr.fresh hU))
theorem Fresh.args {xs : List AV} {oa : List (Nat × Ob)} {U : List Nat} (h : ∀ d, d ∉ U → NoMen d xs oa) : Fresh U ⟨argA xs, mkM oa⟩ := fun d hd => by
  refine ⟨fun j => ?_, fun i o hi => (h d hd).2 _ (mkM_mem hi)⟩
  show NoId d (match xs[j]? with | some x => x | none => .any)
  cases hj : xs[j]? with
  | none => exact .any
  | some x => exact (h d hd).1 x (List.mem_of_getElem? hj)
theorem Fresh.init {args : List CV} : Fresh [] (AS.init args) := Fresh.args fun d _ => ⟨fun x hx => by obtain ⟨z, _, rfl⟩ := List.mem_map.1 hx; exact .c _, fun p hp => by simp at hp⟩

theorem Pure.go {f : FuncId} {fn : Func} {c : Code} {args rs : List CV} {rvs : List ResultVar} (hf : E.P.funcs[f]? = some fn) (hb : fn.body = some c) (hname : (fn.name == "runtime.NumGoroutine") = false) (hr : fn.results = ⟨rvs⟩)
    (hn : args.length ≤ fn.ntmps) (hn0 : fn.ntmps ≤ 1000000) (h : ∀ C : Ctx, C.n = fn.ntmps → (∀ b, C.T0 b → ¬ C.L0 b) → Fresh [] (AS.init args) → CQ E C c (AS.init args) (retQ E rvs rs)) : Pure E.P f args rs :=
  .of hf hb hname hr hn hn0 fun C h1 => h C h1 C.hT .init
theorem Own.go {f : FuncId} {fn : Func} {c : Code} {xs rs : List AV} {oa ob : List (Nat × Ob)} {rvs : List ResultVar} (hf : E.P.funcs[f]? = some fn) (hb : fn.body = some c) (hname : (fn.name == "runtime.NumGoroutine") = false) (hr : fn.results = ⟨rvs⟩)
    (hn : xs.length ≤ fn.ntmps) (hn0 : fn.ntmps ≤ 1000000) (h6 : ∀ p ∈ oa, 1000000 ≤ p.1) (like : ∀ i o o', mkM oa i = some o → mkM ob i = some o' → o.like o') (clo : ∀ k, k ∉ oa.map (·.1) → k ∉ ob.map (·.1) → NoMen k rs ob)
    (root : ∀ k, k ∈ oa.map (·.1) → ¬ NoMen k xs oa) (fresh : ∀ d, d ∉ oa.map (·.1) → NoMen d xs oa)
    (h : ∀ C : Ctx, C.n = fn.ntmps → (∀ b, C.T0 b → ¬ C.L0 b) → Fresh (oa.map (·.1)) ⟨argA xs, mkM oa⟩ → CQ E C c ⟨argA xs, mkM oa⟩ (retO E rvs rs ob)) : Own E.P f xs oa rs ob :=
  .of hf hb hname hr hn hn0 h6 like clo root fun C h1 => h C h1 C.hT (.args fresh)

theorem so {ops : Array Oper} {dst : Option Tmp} {op : Op} {ty : TypeId} {pos : String} {after : Array Edge} {v : AV} {mw : List (Nat × Option Ob)} {R F : List Nat} (h : StepR E s.m s.ev dst op v mw R F) :
    StepO E ops s ⟨dst, op, ty, pos, after, none⟩ v mw R F := .plain rfl h
theorem sv {ops : Array Oper} {dst : Option Tmp} {op : Op} {ty : TypeId} {pos : String} {after : Array Edge} {v : AV} {R : List Nat} (h : StepV E s.m s.ev op v R) :
    StepO E ops s ⟨dst, op, ty, pos, after, none⟩ v [] R [] := .plain rfl (.val h)
theorem gv {ops : Array Oper} {dst : Option Tmp} {op : Op} {ty : TypeId} {pos : String} {after : Array Edge} {v : AV} {R : List Nat} {j : Nat} {q : Bool} {d : Tmp} (hj : (ops[j]?).bind (·.dst) = some d) (hq : s.t d = .c (.v (.bool q)))
    (h : StepV E s.m s.ev op v R) : StepO E ops s ⟨dst, op, ty, pos, after, some (j, q)⟩ v [] R [] := .yes rfl hj hq (.val h)
theorem gn {ops : Array Oper} {dst : Option Tmp} {op : Op} {ty : TypeId} {pos : String} {after : Array Edge} {j : Nat} {q q' : Bool} {d : Tmp} (hj : (ops[j]?).bind (·.dst) = some d) (hq : s.t d = .c (.v (.bool q')))
    (hne : (q' == q) = false) : StepO E ops s ⟨dst, op, ty, pos, after, some (j, q)⟩ (.c (.v undef)) [] [] [] := .no rfl hj hq hne
theorem gnU {ops : Array Oper} {dst : Option Tmp} {op : Op} {ty : TypeId} {pos : String} {after : Array Edge} {j : Nat} {q : Bool} {d : Tmp} (hj : (ops[j]?).bind (·.dst) = some d) (hq : s.t d = .c (.v undef)) :
    StepO E ops s ⟨dst, op, ty, pos, after, some (j, q)⟩ (.c (.v undef)) [] [] [] := .noU rfl hj hq

theorem gvB {ops : Array Oper} {dst : Option Tmp} {op : Op} {ty : TypeId} {pos : String} {after : Array Edge} {v : AV} {R : List Nat} {j : Nat} {q b : Bool} {d : Tmp} (hj : (ops[j]?).bind (·.dst) = some d) (hq : s.t d = .c (.v (.bool b)))
    (hb : b = q) (h : StepV E s.m s.ev op v R) : StepO E ops s ⟨dst, op, ty, pos, after, some (j, q)⟩ v [] R [] := .yes rfl hj (hb ▸ hq) (.val h)
theorem gnB {ops : Array Oper} {dst : Option Tmp} {op : Op} {ty : TypeId} {pos : String} {after : Array Edge} {j : Nat} {q q' b : Bool} {d : Tmp} (hj : (ops[j]?).bind (·.dst) = some d) (hq : s.t d = .c (.v (.bool b)))
    (hb : b = q') (hne : (q' == q) = false) : StepO E ops s ⟨dst, op, ty, pos, after, some (j, q)⟩ (.c (.v undef)) [] [] [] := .no rfl hj (hb ▸ hq) hne
theorem hbl {b q : Bool} (h : b = q) : AV.c (.v (.bool b)) = .c (.v (.bool q)) := by rw [h]

variable {m : Nat → Option Ob} {ev : Operand → AV}
theorem mvC {x : Operand} {y : CV} (hx : ev x = .c y) : StepV E m ev (.move x) (.c y) [] := hx ▸ .move x
theorem mvM {x : Operand} {i n : Nat} (hx : ev x = .ms i n) : StepV E m ev (.move x) (.ms i n) [] := hx ▸ .move x
theorem mvL {x : Operand} {i n : Nat} (hx : ev x = .loc i n) : StepV E m ev (.move x) (.loc i n) [] := hx ▸ .move x
theorem mvT {x : Operand} {y : List AV} (hx : ev x = .tup y) : StepV E m ev (.move x) (.tup y) [] := hx ▸ .move x
theorem mvA {x : Operand} {y : List AV} (hx : ev x = .agg y) : StepV E m ev (.move x) (.agg y) [] := hx ▸ .move x
theorem asC {x : Operand} {y : CV} (hx : ev x = .c y) : StepV E m ev (.assign x) (.c y) [] := hx ▸ .assign x
theorem asM {x : Operand} {i n : Nat} (hx : ev x = .ms i n) : StepV E m ev (.assign x) (.ms i n) [] := hx ▸ .assign x
theorem asL {x : Operand} {i n : Nat} (hx : ev x = .loc i n) : StepV E m ev (.assign x) (.loc i n) [] := hx ▸ .assign x
theorem asT {x : Operand} {y : List AV} (hx : ev x = .tup y) : StepV E m ev (.assign x) (.tup y) [] := hx ▸ .assign x
theorem asA {x : Operand} {y : List AV} (hx : ev x = .agg y) : StepV E m ev (.assign x) (.agg y) [] := hx ▸ .assign x
theorem pkT {c a b : Operand} {y : CV} (hc : ev c = .c (.v (.bool true))) (hy : ev a = .c y) : StepV E m ev (.pick c a b) (.c y) [] := hy ▸ .pickT hc
theorem pkF {c a b : Operand} {y : CV} (hc : ev c = .c (.v (.bool false))) (hy : ev b = .c y) : StepV E m ev (.pick c a b) (.c y) [] := hy ▸ .pickF hc
/-- A whole variable is loaded. -/
theorem ldA {t : TypeId} {x : Operand} {i : Nat} {cells : List AV} {d : TD} (hx : ev x = .loc i 0) (hm : m i = some (.box cells)) (ht : E.Ty t = some d)
    (hd : aggD d.desc = true) (hl : cells.length = d.sz) : StepV E m ev (.load t x) (.agg cells) [i] := by
  have := StepV.loadLA (E := E) hx hm ht hd (by omega)
  rwa [List.drop_zero, ← hl, List.take_length] at this
/-- An element of a list of values is loaded whole. -/
theorem ldV {t : TypeId} {x : Operand} {v : V} {d : TD} (hx : ev x = .c (.ad v.cv.cells)) (ht : E.Ty t = some d) (hd : aggD d.desc = true) (hl : d.sz = 5) : StepV E m ev (.load t x) (.c v.cv) [] := by
  have := StepV.loadCA (E := E) (m := m) hx ht hd (by rw [V.cells_len, hl]; exact Nat.le_refl _)
  rw [List.take_of_length_le (by rw [V.cells_len, hl]; exact Nat.le_refl _), V.cells_cv] at this
  rw [V.cv_eq]; exact this
/-- A field of an element of a list of values. -/
theorem fdV {t : TypeId} {x : Operand} {f : Nat} {v : V} {d fd : TD} {fs : Array Field} {fld : Field} (hx : ev x = .c (.ad v.cv.cells)) (ht : E.Ty t = some d) (hd : d.desc = .struct fs)
    (hf : fs[f]? = some fld) (h2 : E.Ty fld.type = some fd) (h0 : Nat.beq fd.sz 0 = false) (hl : fld.offset < 5) : StepV E m ev (.fieldAddr t x f) (.c (.ad (v.cc.drop fld.offset))) [] := by
  have := StepV.fldC (E := E) (m := m) hx ht hd hf h2 h0 (by rw [V.cells_len]; exact hl)
  rwa [V.cells_cv] at this
theorem ixV {t : TypeId} {x ix : Operand} {e : Nat} {l : List V} {k : IntKind} {n : Int} {y : V} {d de : TD} (hx : ev x = .c (.sl 5 (l.map V.cv))) (hi : ev ix = .c (.v (.int k n))) (h0 : 0 ≤ n) (hy : l[n.toNat]? = some y)
    (ht : E.Ty t = some d) (hd : d.desc = .slice e) (he : E.Ty e = some de) (hs : de.sz = 5) : StepV E m ev (.indexAddr t x ix) (.c (.ad y.cv.cells)) [] :=
  .idxC hx hi h0 (by rw [List.getElem?_map, hy]; rfl) ht hd he hs
theorem lnV {t : TypeId} {x : Operand} {l : List V} {e : Nat} {d : TD} (hx : ev x = .c (.sl 5 (l.map V.cv))) (ht : E.Ty t = some d) (hd : d.desc = .slice e) :
    StepV E m ev (.call { callee := .builtin .len, args := #[x], argTypes := #[t] }) (.c (.v (.int .i64 l.length))) [] := by
  have := StepV.lenC (E := E) (m := m) hx ht hd
  rwa [List.length_map] at this
/-- A whole variable is written. -/
theorem stA {t : TypeId} {x y : Operand} {i : Nat} {cells ys : List AV} {d : TD} {R R' : List Nat} (hx : ev x = .loc i 0) (hm : m i = some (.box cells)) (ht : E.Ty t = some d)
    (hy : Cells m (ev y) ys R) (h1 : AllOne m ys R') (hl : ys.length = d.sz) (hc : cells.length = d.sz) : StepR E m ev none (.store t x y) .any [(i, some (.box ys))] (i :: (R ++ R')) [] := by
  have := StepR.storeL (E := E) hx hm ht hy h1 hl (by omega)
  have e : setMany cells 0 ys = ys := by unfold setMany; simp; omega
  rwa [e] at this
/-- One cell is written. -/
theorem st1 {t : TypeId} {x y : Operand} {i off : Nat} {cells cells' : List AV} {z : AV} {d : TD} {R R' : List Nat} (hx : ev x = .loc i off) (hm : m i = some (.box cells)) (ht : E.Ty t = some d)
    (hy : Cells m (ev y) [z] R) (h1 : One m z R') (hl : d.sz = 1) (hc : off < cells.length) (he : cells.set off z = cells') : StepR E m ev none (.store t x y) .any [(i, some (.box cells'))] (i :: (R ++ (R' ++ []))) [] := by
  have := StepR.storeL (E := E) hx hm ht hy (.cons h1 .nil) (by rw [hl]; rfl) (by omega)
  have e : setMany cells off [z] = cells.set off z := by
    unfold setMany
    rw [List.set_eq_take_append_cons_drop, if_pos hc]; simp
  rwa [e, he] at this

/-! what may be forgotten, by chains -/
def WkT (m m' : Nat → Option Ob) (t t' : Nat → AV) : Prop := ∀ j, WkA m m' (t j) (t' j)
def t0 : Nat → AV := fun _ => .any
theorem WkT.base {m' : Nat → Option Ob} {t : Nat → AV} : WkT m m' t t0 := fun j => .any _
theorem WkT.put {m' : Nat → Option Ob} {t t' : Nat → AV} {d : Nat} {v : AV} (h : WkT m m' t t') (hd : WkA m m' (t d) v) : WkT m m' t (putT t' (some d) v) := by
  intro j
  show WkA m m' (t j) (bif Nat.beq j d then v else t' j)
  cases hb : Nat.beq j d with
  | true => have := Nat.eq_of_beq_eq_true hb; subst this; exact hd
  | false => exact h j
theorem WkM.base {m1 : Nat → Option Ob} : WkM m m1 m0 := fun i o h => by cases h
theorem WkM.put {m1 m' : Nat → Option Ob} {d : Nat} {o o' : Ob} (h : WkM m m1 m') (ho : m d = some o) (hw : WkO m m1 o o') : WkM m m1 (updM m' d (some o')) := by
  intro i x hx
  by_cases e : i = d
  · subst e; rw [updM_same] at hx; cases hx; exact ⟨o, ho, hw⟩
  · rw [updM_ne _ _ e] at hx; exact h i x hx
theorem Wk.mk' {t t' : Nat → AV} {m' : Nat → Option Ob} (ht : WkT m m' t t') (hm : WkM m m' m') : Wk ⟨t, m⟩ ⟨t', m'⟩ := ⟨ht, hm⟩
theorem WkO.same {m1 : Nat → Option Ob} (o : Ob) : WkO m m1 o o := by
  cases o with
  | box cs => exact ⟨rfl, fun j x y hx hy => by rw [hx] at hy; cases hy; exact .refl _⟩
  | arr sz e xs => exact ⟨rfl, rfl, rfl⟩

/-! nothing names it -/
theorem noId.t0 (d : Nat) : AS.noId ⟨t0, m0⟩ d := ⟨fun j => .any, fun i o h => by cases h⟩
theorem noId.put {t : Nat → AV} {d : Nat} {k : Option Tmp} {v : AV} (h : AS.noId ⟨t, m⟩ d) (hv : NoId d v) : AS.noId ⟨putT t k v, m⟩ d := ⟨putT_noId k h.1 hv, h.2⟩
theorem noId.upd {t : Nat → AV} {d i : Nat} {o : Ob} (h : AS.noId ⟨t, m⟩ d) (ho : o.noId d) : AS.noId ⟨t, updM m i (some o)⟩ d := by
  refine ⟨h.1, fun j q hq => ?_⟩
  by_cases e : j = i
  · subst e; simp only [updM_same] at hq; cases hq; exact ho
  · simp only [updM_ne _ _ e] at hq; exact h.2 j q hq
theorem noId.del {t : Nat → AV} {d i : Nat} (h : AS.noId ⟨t, m⟩ d) : AS.noId ⟨t, updM m i none⟩ d := by
  refine ⟨h.1, fun j q hq => ?_⟩
  by_cases e : j = i
  · subst e; simp only [updM_same] at hq; cases hq
  · simp only [updM_ne _ _ e] at hq; exact h.2 j q hq
theorem noId.cells_nil (d : Nat) : Ob.noId d (.box []) := fun j y h => by simp at h
theorem noId.cells_cons {d : Nat} {x : AV} {xs : List AV} (hx : NoId d x) (h : Ob.noId d (.box xs)) : Ob.noId d (.box (x :: xs)) := by
  intro j y hy
  cases j with
  | zero => simp at hy; subst hy; exact hx
  | succ j => exact h j y (by simpa using hy)
theorem noId.list_nil (d : Nat) : NoId d (.agg []) := .agg fun j y h => by simp at h
theorem noId.list_cons {d : Nat} {x : AV} {xs : List AV} (hx : NoId d x) (h : NoId d (.agg xs)) : NoId d (.agg (x :: xs)) := by
  refine .agg fun j y hy => ?_
  cases j with
  | zero => simp at hy; subst hy; exact hx
  | succ j => cases h with | agg h => exact h j y (by simpa using hy)
end
end Go.AM
