/- The abstract machine. It speaks of whatever program. -/
import Derived.Test.YtcmldokgjbmbdaaB2

/- api.Value as a plain tree, and what it reads as. It speaks of whatever program. -/
namespace Go.AM
open Go Go.RowKit
set_option linter.unusedVariables false
set_option linter.unusedSimpArgs false

inductive V where
  | mk (kind i : Int) (f : Nat) (s : ByteArray) (l : List V)
namespace V
def kind : V → Int | mk k _ _ _ _ => k
def i : V → Int | mk _ i _ _ _ => i
def f : V → Nat | mk _ _ f _ _ => f
def s : V → ByteArray | mk _ _ _ s _ => s
def l : V → List V | mk _ _ _ _ l => l
mutual
def cv : V → CV
  | mk k i f s l => .agg [.v (.int .i64 k), .v (.int .i64 i), .fl f, .v (.string s), .sl 5 (cvs l)]
def cvs : List V → List CV
  | [] => []
  | x :: r => cv x :: cvs r
end
mutual
def nodes : V → Nat
  | mk _ _ _ _ l => 1 + nodess l
def nodess : List V → Nat
  | [] => 0
  | x :: r => nodes x + nodess r
end
theorem cvs_eq (l : List V) : cvs l = l.map cv := by
  induction l with
  | nil => simp [cvs]
  | cons x r ih => simp [cvs, ih]
theorem cv_eq (v : V) : v.cv = .agg [.v (.int .i64 v.kind), .v (.int .i64 v.i), .fl v.f, .v (.string v.s), .sl 5 (v.l.map cv)] := by
  cases v; simp [cv, cvs_eq, kind, i, f, s, l]
attribute [irreducible] cv
theorem nodes_mem {x : V} : ∀ {l : List V}, x ∈ l → x.nodes ≤ nodess l
  | [], h => by simp at h
  | y :: r, h => by
    rcases List.mem_cons.1 h with rfl | h
    · simp [nodess]
    · have := nodes_mem h; simp [nodess]; omega
theorem nodes_lt {v x : V} (h : x ∈ v.l) : x.nodes < v.nodes := by
  cases v with
  | mk k i f s l => have := nodes_mem (l := l) h; simp [nodes]; omega
theorem eta (v : V) : mk v.kind v.i v.f v.s v.l = v := by cases v; rfl
@[simp] theorem kind_mk (a b : Int) (c : Nat) (d : ByteArray) (e : List V) : (mk a b c d e).kind = a := rfl
@[simp] theorem i_mk (a b : Int) (c : Nat) (d : ByteArray) (e : List V) : (mk a b c d e).i = b := rfl
@[simp] theorem f_mk (a b : Int) (c : Nat) (d : ByteArray) (e : List V) : (mk a b c d e).f = c := rfl
@[simp] theorem s_mk (a b : Int) (c : Nat) (d : ByteArray) (e : List V) : (mk a b c d e).s = d := rfl
@[simp] theorem l_mk (a b : Int) (c : Nat) (d : ByteArray) (e : List V) : (mk a b c d e).l = e := rfl

/-- Its cells, as a variable holds them. -/
def ca (v : V) : List AV := [.c (.v (.int .i64 v.kind)), .c (.v (.int .i64 v.i)), .c (.fl v.f), .c (.v (.string v.s)), .c (.sl 5 (v.l.map cv))]
/-- Its cells, as read in place. -/
def cc (v : V) : List CV := [.v (.int .i64 v.kind), .v (.int .i64 v.i), .fl v.f, .v (.string v.s), .sl 5 (v.l.map cv)]
theorem cells_cv (v : V) : (cv v).cells = v.cc := by rw [cv_eq]; rfl
theorem cells_len (v : V) : (cv v).cells.length = 5 := by rw [cells_cv]; rfl
theorem plain (v : V) : (cv v).plain = true := by rw [cv_eq]; rfl
theorem one (v : V) : ∀ c ∈ (cv v).cells, c.one = true := by
  rw [cells_cv]; intro c hc; simp [cc] at hc; rcases hc with rfl | rfl | rfl | rfl | rfl <;> rfl
end V

theorem Cells.cv {m : Nat → Option Ob} (v : V) : Cells m (.c v.cv) v.ca [] := by rw [V.cv_eq]; exact Cells.cagg _
theorem LeC.V5 {k i : Int} {s : ByteArray} {F L : CV} {f : Nat} {l : List V} (hF : LeC F (.fl f)) (hL : LeC L (.sl 5 (l.map V.cv))) :
    LeC (.agg [.v (.int .i64 k), .v (.int .i64 i), F, .v (.string s), L]) (V.mk k i f s l).cv := by
  rw [V.cv_eq]
  refine .agg rfl fun j x y hx hy => ?_
  match j with
  | 0 => simp at hx hy; subst hx; subst hy; exact .refl _
  | 1 => simp at hx hy; subst hx; subst hy; exact .refl _
  | 2 => simp at hx hy; subst hx; subst hy; exact hF
  | 3 => simp at hx hy; subst hx; subst hy; exact .refl _
  | 4 => simp at hx hy; subst hx; subst hy; exact hL
  | j + 5 => simp at hx
theorem ToC.V5 {k i : Int} {s : ByteArray} {F L : CV} {f : Nat} {l : List V} (hF : LeC F (.fl f)) (hL : LeC L (.sl 5 (l.map V.cv))) :
    ToC (.agg [.c (.v (.int .i64 k)), .c (.v (.int .i64 i)), .c F, .c (.v (.string s)), .c L]) (V.mk k i f s l).cv := by
  rw [V.cv_eq]
  refine .agg rfl fun j x y hx hy => ?_
  match j with
  | 0 => simp at hx hy; subst hx; subst hy; exact .c (.refl _)
  | 1 => simp at hx hy; subst hx; subst hy; exact .c (.refl _)
  | 2 => simp at hx hy; subst hx; subst hy; exact .c hF
  | 3 => simp at hx hy; subst hx; subst hy; exact .c (.refl _)
  | 4 => simp at hx hy; subst hx; subst hy; exact .c hL
  | j + 5 => simp at hx
theorem ToC.cv (v : V) : ToC (.agg v.ca) v.cv := by
  have := ToC.V5 (k := v.kind) (i := v.i) (s := v.s) (LeC.refl (.fl v.f)) (LeC.refl (.sl 5 (v.l.map V.cv)))
  rw [V.eta] at this; exact this
theorem WkA.V5 {m m' : Nat → Option Ob} {k i : Int} {s : ByteArray} {F L : AV} {f : Nat} {l : List V} (hF : WkA m m' F (.c (.fl f))) (hL : WkA m m' L (.c (.sl 5 (l.map V.cv)))) :
    WkA m m' (.agg [.c (.v (.int .i64 k)), .c (.v (.int .i64 i)), F, .c (.v (.string s)), L]) (.c (V.mk k i f s l).cv) := by
  rw [V.cv_eq]
  refine .aggC rfl fun j x y hx hy => ?_
  match j with
  | 0 => simp at hx hy; subst hx; subst hy; exact .refl _
  | 1 => simp at hx hy; subst hx; subst hy; exact .refl _
  | 2 => simp at hx hy; subst hx; subst hy; exact hF
  | 3 => simp at hx hy; subst hx; subst hy; exact .refl _
  | 4 => simp at hx hy; subst hx; subst hy; exact hL
  | j + 5 => simp at hx
theorem WkA.cv {m m' : Nat → Option Ob} (v : V) : WkA m m' (.agg v.ca) (.c v.cv) := by
  have := WkA.V5 (m := m) (m' := m') (k := v.kind) (i := v.i) (s := v.s) (WkA.refl (.c (.fl v.f))) (WkA.refl (.c (.sl 5 (v.l.map V.cv))))
  rw [V.eta] at this; exact this
end Go.AM

/- The abstract machine's steps in the forms in which a walk meets them. It speaks of whatever program. -/
namespace Go.AM
open Go Go.RowKit
set_option linter.unusedVariables false
set_option linter.unusedSimpArgs false

/-- The operations of a region, one by one, k of them done. -/
inductive RunL (E : Env) (ops : Array Oper) : Nat → List Oper → List FP → AS → AS → Prop where
  | nil {k : Nat} {s : AS} : RunL E ops k [] [] s s
  | cons {k : Nat} {o : Oper} {l : List Oper} {R F : List Nat} {r : List FP} {s s' : AS} {v : AV} {mw : List (Nat × Option Ob)} (hs : StepO E ops s o v mw R F)
      (hr : RunL E ops (k + 1) l r (s.app o.dst v mw) s') : RunL E ops k (o :: l) (⟨k, R, mw.map (·.1), F⟩ :: r) s s'
theorem RunL.run {E : Env} {ops : Array Oper} {k : Nat} {l : List Oper} {r : List FP} {s s' : AS} (h : RunL E ops k l r s s') : (∀ j, l[j]? = ops[k + j]?) → Run E ops r s s' ∧ r.map (·.i) = List.range' k l.length := by
  induction h with
  | nil => exact fun _ => ⟨.nil _, rfl⟩
  | cons hs hr ih =>
    intro hl
    obtain ⟨h1, h2⟩ := ih fun j => by have := hl (j + 1); simp at this; rw [this]; congr 1; omega
    refine ⟨.cons (by have := hl 0; simpa using this.symm) hs rfl h1, ?_⟩
    simp [h2, List.range'_succ]

section
variable {E : Env} {C : Ctx} {s : AS} {Q : Ex → AS → Prop}

/-- Of other objects than those of U nothing is told. -/
def Fresh (U : List Nat) (s : AS) : Prop := ∀ d, d ∉ U → s.noId d
def fpsF (fps : List FP) : List Nat := fps.flatMap (·.F)
theorem RunL.noId {ops : Array Oper} {k : Nat} {l : List Oper} {r : List FP} {s s' : AS} {d : Nat} (h : RunL E ops k l r s s') : s.noId d → d ∉ fpsF r → s'.noId d := by
  induction h with
  | nil => exact fun h _ => h
  | cons hs hr ih =>
    intro hn hd
    simp only [fpsF, List.flatMap_cons, List.mem_append, not_or] at hd
    exact ih (hs.noId hn hd.1) hd.2
theorem RunL.fresh {ops : Array Oper} {k : Nat} {l : List Oper} {r : List FP} {s s' : AS} {U : List Nat} (h : RunL E ops k l r s s') (hU : Fresh U s) : Fresh (fpsF r ++ U) s' := by
  intro d hd
  simp only [List.mem_append, not_or] at hd
  exact h.noId (hU d hd.2) hd.1
theorem fresh_of {U : List Nat} {fps : List FP} (hU : Fresh U s) (h : disj (fpsF fps) U = true) : ∀ x ∈ fps, ∀ d ∈ x.F, s.noId d := by
  intro x hx d hd
  exact hU d (disj_spec h d (List.mem_flatMap.2 ⟨x, hx, hd⟩))
theorem CQ.rD {U : List Nat} (hU : Fresh U s) {id : Nat} {l : List Oper} {fps : List FP} {s' : AS} (hr : RunL E ⟨l⟩ 0 l fps s s') (hc : ((textOk ⟨l⟩ && dstOk C.n ⟨l⟩ && chkP ⟨l⟩ (masks l) fps) && disj (fpsF fps) U) = true)
    (h : Fresh (fpsF fps ++ U) s' → Q .normal s') : CQ E C (.region id ⟨l⟩ true) s Q := by
  obtain ⟨h1, h2⟩ := hr.run fun j => by simp
  rw [Bool.and_eq_true] at hc
  exact .regD h1 (by rw [h2, List.range_eq_range']) hc.1 (fresh_of hU hc.2) (h (hr.fresh hU))
theorem CQ.rT {U : List Nat} (hU : Fresh U s) {id : Nat} {l : List Oper} {fps : List FP} {s' : AS} (hr : RunL E ⟨l⟩ 0 l fps s s') (hc : ((dstOk C.n ⟨l⟩ && chkF fps) && disj (fpsF fps) U) = true)
    (h : Fresh (fpsF fps ++ U) s' → Q .normal s') : CQ E C (.region id ⟨l⟩ false) s Q := by
  obtain ⟨h1, h2⟩ := hr.run fun j => by simp
  rw [Bool.and_eq_true] at hc
  exact .regT h1 (by rw [h2, List.range_eq_range']) hc.1 (fresh_of hU hc.2) (h (hr.fresh hU))
theorem Fresh.args {xs : List AV} {oa : List (Nat × Ob)} {U : List Nat} (h : ∀ d, d ∉ U → NoMen d xs oa) : Fresh U ⟨argA xs, mkM oa⟩ := fun d hd => by
  refine ⟨fun j => ?_, fun i o hi => (h d hd).2 _ (mkM_mem hi)⟩
  show NoId d (match xs[j]? with | some x => x | none => .any)
  cases hj : xs[j]? with
  | none => exact .any
  | some x => exact (h d hd).1 x (List.mem_of_getElem? hj)
theorem Fresh.init {args : List CV} : Fresh [] (AS.init args) := Fresh.args fun d _ => ⟨fun x hx => by obtain ⟨z, _, rfl⟩ := List.mem_map.1 hx; exact .c _, fun p hp => by simp at hp⟩

theorem Pure.go {f : FuncId} {fn : Func} {c : Code} {args rs : List CV} {rvs : List ResultVar} (hf : E.P.funcs[f]? = some fn) (hb : fn.body = some c) (hname : (fn.name == "runtime.NumGoroutine") = false) (hr : fn.results = ⟨rvs⟩)
    (hn : args.length ≤ fn.ntmps) (hn0 : fn.ntmps ≤ 1000000) (h : ∀ C : Ctx, C.n = fn.ntmps → (∀ b, C.T0 b → ¬ C.L0 b) → Fresh [] (AS.init args) → CQ E C c (AS.init args) (retQ E rvs rs)) : Pure E.P f args rs :=
  .of hf hb hname hr hn hn0 fun C h1 => h C h1 C.hT .init
theorem Own.go {f : FuncId} {fn : Func} {c : Code} {xs rs : List AV} {oa ob : List (Nat × Ob)} {rvs : List ResultVar} (hf : E.P.funcs[f]? = some fn) (hb : fn.body = some c) (hname : (fn.name == "runtime.NumGoroutine") = false) (hr : fn.results = ⟨rvs⟩)
    (hn : xs.length ≤ fn.ntmps) (hn0 : fn.ntmps ≤ 1000000) (h6 : ∀ p ∈ oa, 1000000 ≤ p.1) (like : ∀ i o o', mkM oa i = some o → mkM ob i = some o' → o.like o') (clo : ∀ k, k ∉ oa.map (·.1) → k ∉ ob.map (·.1) → NoMen k rs ob)
    (root : ∀ k, k ∈ oa.map (·.1) → ¬ NoMen k xs oa) (fresh : ∀ d, d ∉ oa.map (·.1) → NoMen d xs oa)
    (h : ∀ C : Ctx, C.n = fn.ntmps → (∀ b, C.T0 b → ¬ C.L0 b) → Fresh (oa.map (·.1)) ⟨argA xs, mkM oa⟩ → CQ E C c ⟨argA xs, mkM oa⟩ (retO E rvs rs ob)) : Own E.P f xs oa rs ob :=
  .of hf hb hname hr hn hn0 h6 like clo root fun C h1 => h C h1 C.hT (.args fresh)

theorem so {ops : Array Oper} {dst : Option Tmp} {op : Op} {ty : TypeId} {pos : String} {after : Array Edge} {v : AV} {mw : List (Nat × Option Ob)} {R F : List Nat} (h : StepR E s.m s.ev dst op v mw R F) :
    StepO E ops s ⟨dst, op, ty, pos, after, none⟩ v mw R F := .plain rfl h
theorem sv {ops : Array Oper} {dst : Option Tmp} {op : Op} {ty : TypeId} {pos : String} {after : Array Edge} {v : AV} {R : List Nat} (h : StepV E s.m s.ev op v R) :
    StepO E ops s ⟨dst, op, ty, pos, after, none⟩ v [] R [] := .plain rfl (.val h)
theorem gv {ops : Array Oper} {dst : Option Tmp} {op : Op} {ty : TypeId} {pos : String} {after : Array Edge} {v : AV} {R : List Nat} {j : Nat} {q : Bool} {d : Tmp} (hj : (ops[j]?).bind (·.dst) = some d) (hq : s.t d = .c (.v (.bool q)))
    (h : StepV E s.m s.ev op v R) : StepO E ops s ⟨dst, op, ty, pos, after, some (j, q)⟩ v [] R [] := .yes rfl hj hq (.val h)
theorem gn {ops : Array Oper} {dst : Option Tmp} {op : Op} {ty : TypeId} {pos : String} {after : Array Edge} {j : Nat} {q q' : Bool} {d : Tmp} (hj : (ops[j]?).bind (·.dst) = some d) (hq : s.t d = .c (.v (.bool q')))
    (hne : (q' == q) = false) : StepO E ops s ⟨dst, op, ty, pos, after, some (j, q)⟩ (.c (.v undef)) [] [] [] := .no rfl hj hq hne
theorem gnU {ops : Array Oper} {dst : Option Tmp} {op : Op} {ty : TypeId} {pos : String} {after : Array Edge} {j : Nat} {q : Bool} {d : Tmp} (hj : (ops[j]?).bind (·.dst) = some d) (hq : s.t d = .c (.v undef)) :
    StepO E ops s ⟨dst, op, ty, pos, after, some (j, q)⟩ (.c (.v undef)) [] [] [] := .noU rfl hj hq

theorem gvB {ops : Array Oper} {dst : Option Tmp} {op : Op} {ty : TypeId} {pos : String} {after : Array Edge} {v : AV} {R : List Nat} {j : Nat} {q b : Bool} {d : Tmp} (hj : (ops[j]?).bind (·.dst) = some d) (hq : s.t d = .c (.v (.bool b)))
    (hb : b = q) (h : StepV E s.m s.ev op v R) : StepO E ops s ⟨dst, op, ty, pos, after, some (j, q)⟩ v [] R [] := .yes rfl hj (hb ▸ hq) (.val h)
theorem gnB {ops : Array Oper} {dst : Option Tmp} {op : Op} {ty : TypeId} {pos : String} {after : Array Edge} {j : Nat} {q q' b : Bool} {d : Tmp} (hj : (ops[j]?).bind (·.dst) = some d) (hq : s.t d = .c (.v (.bool b)))
    (hb : b = q') (hne : (q' == q) = false) : StepO E ops s ⟨dst, op, ty, pos, after, some (j, q)⟩ (.c (.v undef)) [] [] [] := .no rfl hj (hb ▸ hq) hne
theorem hbl {b q : Bool} (h : b = q) : AV.c (.v (.bool b)) = .c (.v (.bool q)) := by rw [h]

variable {m : Nat → Option Ob} {ev : Operand → AV}
theorem mvC {x : Operand} {y : CV} (hx : ev x = .c y) : StepV E m ev (.move x) (.c y) [] := hx ▸ .move x
theorem mvM {x : Operand} {i n : Nat} (hx : ev x = .ms i n) : StepV E m ev (.move x) (.ms i n) [] := hx ▸ .move x
theorem mvL {x : Operand} {i n : Nat} (hx : ev x = .loc i n) : StepV E m ev (.move x) (.loc i n) [] := hx ▸ .move x
theorem mvT {x : Operand} {y : List AV} (hx : ev x = .tup y) : StepV E m ev (.move x) (.tup y) [] := hx ▸ .move x
theorem mvA {x : Operand} {y : List AV} (hx : ev x = .agg y) : StepV E m ev (.move x) (.agg y) [] := hx ▸ .move x
theorem asC {x : Operand} {y : CV} (hx : ev x = .c y) : StepV E m ev (.assign x) (.c y) [] := hx ▸ .assign x
theorem asM {x : Operand} {i n : Nat} (hx : ev x = .ms i n) : StepV E m ev (.assign x) (.ms i n) [] := hx ▸ .assign x
theorem asL {x : Operand} {i n : Nat} (hx : ev x = .loc i n) : StepV E m ev (.assign x) (.loc i n) [] := hx ▸ .assign x
theorem asT {x : Operand} {y : List AV} (hx : ev x = .tup y) : StepV E m ev (.assign x) (.tup y) [] := hx ▸ .assign x
theorem asA {x : Operand} {y : List AV} (hx : ev x = .agg y) : StepV E m ev (.assign x) (.agg y) [] := hx ▸ .assign x
theorem pkT {c a b : Operand} {y : CV} (hc : ev c = .c (.v (.bool true))) (hy : ev a = .c y) : StepV E m ev (.pick c a b) (.c y) [] := hy ▸ .pickT hc
theorem pkF {c a b : Operand} {y : CV} (hc : ev c = .c (.v (.bool false))) (hy : ev b = .c y) : StepV E m ev (.pick c a b) (.c y) [] := hy ▸ .pickF hc
/-- A whole variable is loaded. -/
theorem ldA {t : TypeId} {x : Operand} {i : Nat} {cells : List AV} {d : TD} (hx : ev x = .loc i 0) (hm : m i = some (.box cells)) (ht : E.Ty t = some d)
    (hd : aggD d.desc = true) (hl : cells.length = d.sz) : StepV E m ev (.load t x) (.agg cells) [i] := by
  have := StepV.loadLA (E := E) hx hm ht hd (by omega)
  rwa [List.drop_zero, ← hl, List.take_length] at this
/-- An element of a list of values is loaded whole. -/
theorem ldV {t : TypeId} {x : Operand} {v : V} {d : TD} (hx : ev x = .c (.ad v.cv.cells)) (ht : E.Ty t = some d) (hd : aggD d.desc = true) (hl : d.sz = 5) : StepV E m ev (.load t x) (.c v.cv) [] := by
  have := StepV.loadCA (E := E) (m := m) hx ht hd (by rw [V.cells_len, hl]; exact Nat.le_refl _)
  rw [List.take_of_length_le (by rw [V.cells_len, hl]; exact Nat.le_refl _), V.cells_cv] at this
  rw [V.cv_eq]; exact this
/-- A field of an element of a list of values. -/
theorem fdV {t : TypeId} {x : Operand} {f : Nat} {v : V} {d fd : TD} {fs : Array Field} {fld : Field} (hx : ev x = .c (.ad v.cv.cells)) (ht : E.Ty t = some d) (hd : d.desc = .struct fs)
    (hf : fs[f]? = some fld) (h2 : E.Ty fld.type = some fd) (h0 : Nat.beq fd.sz 0 = false) (hl : fld.offset < 5) : StepV E m ev (.fieldAddr t x f) (.c (.ad (v.cc.drop fld.offset))) [] := by
  have := StepV.fldC (E := E) (m := m) hx ht hd hf h2 h0 (by rw [V.cells_len]; exact hl)
  rwa [V.cells_cv] at this
theorem ixV {t : TypeId} {x ix : Operand} {e : Nat} {l : List V} {k : IntKind} {n : Int} {y : V} {d de : TD} (hx : ev x = .c (.sl 5 (l.map V.cv))) (hi : ev ix = .c (.v (.int k n))) (h0 : 0 ≤ n) (hy : l[n.toNat]? = some y)
    (ht : E.Ty t = some d) (hd : d.desc = .slice e) (he : E.Ty e = some de) (hs : de.sz = 5) : StepV E m ev (.indexAddr t x ix) (.c (.ad y.cv.cells)) [] :=
  .idxC hx hi h0 (by rw [List.getElem?_map, hy]; rfl) ht hd he hs
theorem lnV {t : TypeId} {x : Operand} {l : List V} {e : Nat} {d : TD} (hx : ev x = .c (.sl 5 (l.map V.cv))) (ht : E.Ty t = some d) (hd : d.desc = .slice e) :
    StepV E m ev (.call { callee := .builtin .len, args := #[x], argTypes := #[t] }) (.c (.v (.int .i64 l.length))) [] := by
  have := StepV.lenC (E := E) (m := m) hx ht hd
  rwa [List.length_map] at this
/-- A whole variable is written. -/
theorem stA {t : TypeId} {x y : Operand} {i : Nat} {cells ys : List AV} {d : TD} {R R' : List Nat} (hx : ev x = .loc i 0) (hm : m i = some (.box cells)) (ht : E.Ty t = some d)
    (hy : Cells m (ev y) ys R) (h1 : AllOne m ys R') (hl : ys.length = d.sz) (hc : cells.length = d.sz) : StepR E m ev none (.store t x y) .any [(i, some (.box ys))] (i :: (R ++ R')) [] := by
  have := StepR.storeL (E := E) hx hm ht hy h1 hl (by omega)
  have e : setMany cells 0 ys = ys := by unfold setMany; simp; omega
  rwa [e] at this
/-- One cell is written. -/
theorem st1 {t : TypeId} {x y : Operand} {i off : Nat} {cells cells' : List AV} {z : AV} {d : TD} {R R' : List Nat} (hx : ev x = .loc i off) (hm : m i = some (.box cells)) (ht : E.Ty t = some d)
    (hy : Cells m (ev y) [z] R) (h1 : One m z R') (hl : d.sz = 1) (hc : off < cells.length) (he : cells.set off z = cells') : StepR E m ev none (.store t x y) .any [(i, some (.box cells'))] (i :: (R ++ (R' ++ []))) [] := by
  have := StepR.storeL (E := E) hx hm ht hy (.cons h1 .nil) (by rw [hl]; rfl) (by omega)
  have e : setMany cells off [z] = cells.set off z := by
    unfold setMany
    rw [List.set_eq_take_append_cons_drop, if_pos hc]; simp
  rwa [e, he] at this

/-! what may be forgotten, by chains -/
def WkT (m m' : Nat → Option Ob) (t t' : Nat → AV) : Prop := ∀ j, WkA m m' (t j) (t' j)
def t0 : Nat → AV := fun _ => .any
theorem WkT.base {m' : Nat → Option Ob} {t : Nat → AV} : WkT m m' t t0 := fun j => .any _
theorem WkT.put {m' : Nat → Option Ob} {t t' : Nat → AV} {d : Nat} {v : AV} (h : WkT m m' t t') (hd : WkA m m' (t d) v) : WkT m m' t (putT t' (some d) v) := by
  intro j
  show WkA m m' (t j) (bif Nat.beq j d then v else t' j)
  cases hb : Nat.beq j d with
  | true => have := Nat.eq_of_beq_eq_true hb; subst this; exact hd
  | false => exact h j
theorem WkM.base {m1 : Nat → Option Ob} : WkM m m1 m0 := fun i o h => by cases h
theorem WkM.put {m1 m' : Nat → Option Ob} {d : Nat} {o o' : Ob} (h : WkM m m1 m') (ho : m d = some o) (hw : WkO m m1 o o') : WkM m m1 (updM m' d (some o')) := by
  intro i x hx
  by_cases e : i = d
  · subst e; rw [updM_same] at hx; cases hx; exact ⟨o, ho, hw⟩
  · rw [updM_ne _ _ e] at hx; exact h i x hx
theorem Wk.mk' {t t' : Nat → AV} {m' : Nat → Option Ob} (ht : WkT m m' t t') (hm : WkM m m' m') : Wk ⟨t, m⟩ ⟨t', m'⟩ := ⟨ht, hm⟩
theorem WkO.same {m1 : Nat → Option Ob} (o : Ob) : WkO m m1 o o := by
  cases o with
  | box cs => exact ⟨rfl, fun j x y hx hy => by rw [hx] at hy; cases hy; exact .refl _⟩
  | arr sz e xs => exact ⟨rfl, rfl, rfl⟩

/-! nothing names it -/
theorem noId.t0 (d : Nat) : AS.noId ⟨t0, m0⟩ d := ⟨fun j => .any, fun i o h => by cases h⟩
theorem noId.put {t : Nat → AV} {d : Nat} {k : Option Tmp} {v : AV} (h : AS.noId ⟨t, m⟩ d) (hv : NoId d v) : AS.noId ⟨putT t k v, m⟩ d := ⟨putT_noId k h.1 hv, h.2⟩
theorem noId.upd {t : Nat → AV} {d i : Nat} {o : Ob} (h : AS.noId ⟨t, m⟩ d) (ho : o.noId d) : AS.noId ⟨t, updM m i (some o)⟩ d := by
  refine ⟨h.1, fun j q hq => ?_⟩
  by_cases e : j = i
  · subst e; simp only [updM_same] at hq; cases hq; exact ho
  · simp only [updM_ne _ _ e] at hq; exact h.2 j q hq
theorem noId.del {t : Nat → AV} {d i : Nat} (h : AS.noId ⟨t, m⟩ d) : AS.noId ⟨t, updM m i none⟩ d := by
  refine ⟨h.1, fun j q hq => ?_⟩
  by_cases e : j = i
  · subst e; simp only [updM_same] at hq; cases hq
  · simp only [updM_ne _ _ e] at hq; exact h.2 j q hq
theorem noId.cells_nil (d : Nat) : Ob.noId d (.box []) := fun j y h => by simp at h
theorem noId.cells_cons {d : Nat} {x : AV} {xs : List AV} (hx : NoId d x) (h : Ob.noId d (.box xs)) : Ob.noId d (.box (x :: xs)) := by
  intro j y hy
  cases j with
  | zero => simp at hy; subst hy; exact hx
  | succ j => exact h j y (by simpa using hy)
theorem noId.list_nil (d : Nat) : NoId d (.agg []) := .agg fun j y h => by simp at h
theorem noId.list_cons {d : Nat} {x : AV} {xs : List AV} (hx : NoId d x) (h : NoId d (.agg xs)) : NoId d (.agg (x :: xs)) := by
  refine .agg fun j y hy => ?_
  cases j with
  | zero => simp at hy; subst hy; exact hx
  | succ j => cases h with | agg h => exact h j y (by simpa using hy)
end
end Go.AM

/- The abstract machine's steps in the forms in which a walk meets them, what they leave written out. It speaks of whatever program. -/
namespace Go.AM
open Go Go.RowKit
set_option linter.unusedVariables false
set_option linter.unusedSimpArgs false

/-! cells, written out -/
section
variable {m : Nat → Option Ob}
theorem oV {x : AV} {u : Value} (hx : x = .c (.v u)) (h : u.oneCell' = true) : One m x [] := hx ▸ .v h
theorem oF {x : AV} {b : Nat} (hx : x = .c (.fl b)) : One m x [] := hx ▸ .fl b
theorem oS {x : AV} {sz : Nat} {xs : List CV} (hx : x = .c (.sl sz xs)) : One m x [] := hx ▸ .sl sz xs
theorem oD {x : AV} {cs : List CV} (hx : x = .c (.ad cs)) : One m x [] := hx ▸ .ad cs
theorem oM {x : AV} {i n sz e : Nat} {xs : List CV} (hx : x = .ms i n) (hm : m i = some (.arr sz e xs)) (hn : xs.length = n) : One m x [i] := hx ▸ .ms hm hn
theorem oL {x : AV} {i off : Nat} {cs : List AV} (hx : x = .loc i off) (hm : m i = some (.box cs)) : One m x [i] := hx ▸ .loc hm
theorem cA {x : AV} {xs : List AV} (hx : x = .agg xs) : Cells m x xs [] := hx ▸ .agg xs
theorem cCv {x : AV} {v : V} (hx : x = .c v.cv) : Cells m x v.ca [] := hx ▸ .cv v
theorem cG {x : AV} {cs : List CV} {ys : List AV} (hx : x = .c (.agg cs)) (hy : cs.map .c = ys) : Cells m x ys [] := by rw [hx, ← hy]; exact .cagg cs
theorem cV {x : AV} {u : Value} (hx : x = .c (.v u)) (h : u.oneCell' = true) : Cells m x [.c (.v u)] [] := by rw [hx]; exact .one (.v h)
theorem cF {x : AV} {b : Nat} (hx : x = .c (.fl b)) : Cells m x [.c (.fl b)] [] := by rw [hx]; exact .one (.fl b)
theorem cS {x : AV} {sz : Nat} {xs : List CV} (hx : x = .c (.sl sz xs)) : Cells m x [.c (.sl sz xs)] [] := by rw [hx]; exact .one (.sl sz xs)
theorem cD {x : AV} {cs : List CV} (hx : x = .c (.ad cs)) : Cells m x [.c (.ad cs)] [] := by rw [hx]; exact .one (.ad cs)
theorem cM {x : AV} {i n sz e : Nat} {xs : List CV} (hx : x = .ms i n) (hm : m i = some (.arr sz e xs)) (hn : xs.length = n) : Cells m x [.ms i n] [i] := by rw [hx]; exact .one (.ms hm hn)
theorem cL {x : AV} {i off : Nat} {cs : List AV} (hx : x = .loc i off) (hm : m i = some (.box cs)) : Cells m x [.loc i off] [i] := by rw [hx]; exact .one (.loc hm)
theorem AllOne.ca (v : V) : AllOne m v.ca [] := by
  have := AllOne.cons (m := m) (One.v (m := m) (u := .int .i64 v.kind) rfl) (.cons (.v (u := .int .i64 v.i) rfl) (.cons (.fl v.f) (.cons (.v (u := .string v.s) rfl) (.cons (.sl 5 (v.l.map V.cv)) .nil))))
  exact this
end

/-- Some cells of a row are written. -/
inductive SetR : List AV → Nat → List AV → List AV → Prop where
  | done (cs : List AV) : SetR cs 0 [] cs
  | put {c y : AV} {cs ys out : List AV} (h : SetR cs 0 ys out) : SetR (c :: cs) 0 (y :: ys) (y :: out)
  | skip {c : AV} {cs ys out : List AV} {k : Nat} (h : SetR cs k ys out) : SetR (c :: cs) (k + 1) ys (c :: out)
theorem SetR.spec {cs : List AV} {k : Nat} {ys out : List AV} (h : SetR cs k ys out) : setMany cs k ys = out ∧ k + ys.length ≤ cs.length := by
  induction h with
  | done cs => exact ⟨by simp [setMany], by simp⟩
  | put h ih => obtain ⟨h1, h2⟩ := ih; exact ⟨by simp [setMany] at h1 ⊢; exact h1, by simp at h2 ⊢; exact h2⟩
  | skip h ih => obtain ⟨h1, h2⟩ := ih; exact ⟨by simp only [setMany] at h1 ⊢; rw [← h1]; simp [Nat.succ_add], by simp at h2 ⊢; omega⟩

/-- The parts of a composite, filled in, written out. -/
inductive FillR (E : Env) (m : Nat → Option Ob) (ev : Operand → AV) (fs : Array Field) : List AV → List (Nat × Operand) → List AV → List Nat → Prop where
  | nil (cells : List AV) : FillR E m ev fs cells [] cells []
  | cons {cells cells' : List AV} {i : Nat} {x : Operand} {ys : List AV} {rest : List (Nat × Operand)} {out : List AV} {fld : Field} {fd : TD} {R R' : List Nat}
      (hf : fs[i]? = some fld) (ht : E.Ty fld.type = some fd) (hc : Cells m (ev x) ys R) (hl : Nat.beq ys.length fd.sz = true) (hs : SetR cells fld.offset ys cells')
      (h : FillR E m ev fs cells' rest out R') : FillR E m ev fs cells ((i, x) :: rest) out (R ++ R')
theorem FillR.fill {E : Env} {m : Nat → Option Ob} {ev : Operand → AV} {fs : Array Field} {cells : List AV} {parts : List (Nat × Operand)} {out : List AV} {R : List Nat} (h : FillR E m ev fs cells parts out R) :
    Fill E m fs cells (parts.map fun p => (p.1, ev p.2)) out R := by
  induction h with
  | nil cells => exact .nil _
  | cons hf ht hc hl hs h ih =>
    obtain ⟨h1, h2⟩ := hs.spec
    have hl := Nat.eq_of_beq_eq_true hl
    exact .cons hf ht hc hl (by rw [← hl]; exact h2) (by rw [h1]; exact ih)
theorem bdR {E : Env} {m : Nat → Option Ob} {ev : Operand → AV} {t : TypeId} {ps : List (Nat × Operand)} {d : TD} {fs : Array Field} {out : List AV} {R : List Nat} (ht : E.Ty t = some d) (hd : d.desc = .struct fs)
    (ha : fs.toList.all (fun f => (E.Ty f.type).isSome) = true) (hf : FillR E m ev fs (d.zero.map fun z => .c (.v z)) ps out R) : StepV E m ev (.build t ⟨ps⟩) (.agg out) R :=
  .build ht hd ha hf.fill

section
variable {E : Env} {C : Ctx} {s : AS} {m : Nat → Option Ob} {ev : Operand → AV}
/-- Cells are written. -/
theorem stR {t : TypeId} {x y : Operand} {i off : Nat} {cells cells' ys : List AV} {d : TD} {R R' : List Nat} (hx : ev x = .loc i off) (hm : m i = some (.box cells)) (ht : E.Ty t = some d)
    (hy : Cells m (ev y) ys R) (h1 : AllOne m ys R') (hl : Nat.beq ys.length d.sz = true) (hs : SetR cells off ys cells') : StepR E m ev none (.store t x y) .any [(i, some (.box cells'))] (i :: (R ++ R')) [] := by
  obtain ⟨e, h2⟩ := hs.spec
  have hl := Nat.eq_of_beq_eq_true hl
  have := StepR.storeL (E := E) hx hm ht hy h1 hl (by rw [← hl]; exact h2)
  rwa [e] at this
/-- A whole variable is written: what is written is all that it holds. -/
theorem stW {t : TypeId} {x y : Operand} {i : Nat} {cells ys : List AV} {d : TD} {R R' : List Nat} (hx : ev x = .loc i 0) (hm : m i = some (.box cells)) (ht : E.Ty t = some d)
    (hc : Nat.beq cells.length d.sz = true) (hy : Cells m (ev y) ys R) (h1 : AllOne m ys R') (hl : Nat.beq ys.length d.sz = true) : StepR E m ev none (.store t x y) .any [(i, some (.box ys))] (i :: (R ++ R')) [] :=
  stA hx hm ht hy h1 (Nat.eq_of_beq_eq_true hl) (Nat.eq_of_beq_eq_true hc)

theorem RunL.op {ops : Array Oper} {k : Nat} {dst : Option Tmp} {op : Op} {ty : TypeId} {pos : String} {after : Array Edge} {g : Option (Nat × Bool)} {l : List Oper} {R F : List Nat} {r : List FP} {s s' : AS} {v : AV} {mw : List (Nat × Option Ob)}
    (hs : StepO E ops s ⟨dst, op, ty, pos, after, g⟩ v mw R F) (hr : RunL E ops (k + 1) l r (s.app dst v mw) s') : RunL E ops k (⟨dst, op, ty, pos, after, g⟩ :: l) (⟨k, R, mw.map (·.1), F⟩ :: r) s s' := .cons hs hr

/-! results -/
variable {m' : Nat → Option Ob}
theorem wE {x : AV} {z y : CV} (hx : x = .c z) (h : z = y) : WkA m m' x (.c y) := by rw [hx, h]; exact .refl _
theorem wF {x : AV} {b : Nat} {u : CV} (hx : x = .c u) (h : LeC u (.fl b)) : WkA m m' x (.c (.fl b)) := by rw [hx]; exact .le h
theorem wNil {x : AV} {sz : Nat} (h0 : Nat.blt 0 sz = true) (hx : x = .c (.v (.slice none 0 0))) : WkA m m' x (.c (.sl sz [])) := by rw [hx]; exact .le (.nil _ (Nat.le_of_ble_eq_true h0))
theorem wNV {x : AV} (hx : x = .c (.v (.slice none 0 0))) : WkA m m' x (.c (.sl 5 (([] : List V).map V.cv))) := wNil rfl hx
theorem wLV {x : AV} {l : List V} (hx : x = .c (.sl 5 (l.map V.cv))) : WkA m m' x (.c (.sl 5 (l.map V.cv))) := by rw [hx]; exact .refl _
theorem wMs {x : AV} {i n sz e : Nat} {xs ys : List CV} (hx : x = .ms i n) (hm : m i = some (.arr sz e xs)) (hn : xs.length = n) (hm' : m' i = none) (h : xs = ys) : WkA m m' x (.c (.sl sz ys)) := by rw [hx, ← h]; exact .ms hm hn hm'
theorem wCv {x : AV} {v u : V} (hx : x = .agg v.ca) (h : v = u) : WkA m m' x (.c u.cv) := by rw [hx, ← h]; exact .cv v
theorem wCv' {x : AV} {v u : V} (hx : x = .c v.cv) (h : v = u) : WkA m m' x (.c u.cv) := by rw [hx, ← h]; exact .refl _
theorem wV5 {x : AV} {k i : Int} {s : ByteArray} {F L : AV} {f : Nat} {l : List V} {u : V} (hx : x = .agg [.c (.v (.int .i64 k)), .c (.v (.int .i64 i)), F, .c (.v (.string s)), L]) (hF : WkA m m' F (.c (.fl f)))
    (hL : WkA m m' L (.c (.sl 5 (l.map V.cv)))) (hu : V.mk k i f s l = u) : WkA m m' x (.c u.cv) := by rw [hx, ← hu]; exact .V5 hF hL
theorem RetA.cellW {m1 : Nat → Option Ob} {t : Tmp} {ty : TypeId} {i : Nat} {cells : List AV} {d : TD} {y : AV} (ht : s.t t = .loc i 0) (hm : s.m i = some (.box cells)) (hd : E.Ty ty = some d) (ha : aggD d.desc = true)
    (hl : Nat.beq cells.length d.sz = true) (h : WkA s.m m1 (.agg cells) y) : RetA E s m1 (.cell t ty) y := by
  have hl := Nat.eq_of_beq_eq_true hl
  refine .cellA ht hm hd ha (by omega) ?_
  rw [List.drop_zero, ← hl, List.take_length]; exact h
theorem retC {r : ResultVar} {x : CV} {rs : List ResultVar} {xs : List CV} (h : RetA E s (mkM []) r (.c x)) (hs : retQ E rs xs .ret s) : retQ E (r :: rs) (x :: xs) .ret s := ⟨hs.1, RetL.cons h hs.2⟩
theorem retN : retQ E [] [] .ret s := ⟨fun i o h => (by cases h), RetL.nil⟩
theorem retP {rvs : List ResultVar} {rs : List AV} {b : List (Nat × Ob)} (hm : WkM s.m (mkM b) (mkM b)) (hs : RetL E s (mkM b) rvs rs) : retO E rvs rs b .ret s := ⟨hm, hs⟩

/-! arguments -/
theorem tE {x : AV} {y : CV} (hx : x = .c y) : ToC x y := by rw [hx]; exact .c (.refl _)
theorem tCv {x : AV} {v : V} (hx : x = .agg v.ca) : ToC x v.cv := by rw [hx]; exact .cv v
theorem tV5 {x : AV} {k i : Int} {s : ByteArray} {F L : CV} {f : Nat} {l : List V} (hx : x = .agg [.c (.v (.int .i64 k)), .c (.v (.int .i64 i)), .c F, .c (.v (.string s)), .c L]) (hF : LeC F (.fl f)) (hL : LeC L (.sl 5 (l.map V.cv))) :
    ToC x (V.mk k i f s l).cv := by rw [hx]; exact .V5 hF hL
theorem tNil {x : AV} {sz : Nat} (h0 : Nat.blt 0 sz = true) (hx : x = .c (.v (.slice none 0 0))) : ToC x (.sl sz []) := by rw [hx]; exact .c (.nil _ (Nat.le_of_ble_eq_true h0))
theorem tNV {x : AV} (hx : x = .c (.v (.slice none 0 0))) : ToC x (.sl 5 (([] : List V).map V.cv)) := tNil rfl hx
theorem LeC.nv : LeC (.v (.slice none 0 0)) (.sl 5 (([] : List V).map V.cv)) := .nil _ (by decide)
theorem tFn0 {x : AV} {f : FuncId} (hx : x = .c (.v (.func (.func f) #[] #[]))) : ToC x (.fn f []) := by rw [hx]; exact .c (.fn0 f)
theorem tF {x : AV} {b : Nat} {u : CV} (hx : x = .c u) (h : LeC u (.fl b)) : ToC x (.fl b) := by rw [hx]; exact .c h
end
/-! states written out, for loops -/
def mkT : List (Nat × AV) → Nat → AV
  | [] => t0
  | (d, v) :: r => putT (mkT r) (some d) v
section
variable {m m' : Nat → Option Ob} {t t' : Nat → AV} {U : List Nat}
theorem wr {x y : AV} (h : x = y) : WkA m m' x y := h ▸ .refl _
theorem wkB : WkT m m' t (mkT []) := WkT.base
theorem wkP {d : Nat} {v : AV} {r : List (Nat × AV)} (hd : WkA m m' (t d) v) (h : WkT m m' t (mkT r)) : WkT m m' t (mkT ((d, v) :: r)) := h.put hd
theorem wkMB : WkM m m' (mkM []) := WkM.base
theorem wkMP {d : Nat} {o o' : Ob} {r : List (Nat × Ob)} (ho : m d = some o) (hw : WkO m m' o o') (h : WkM m m' (mkM r)) : WkM m m' (mkM ((d, o') :: r)) := h.put ho hw
theorem wkOb {xs ys : List AV} (hl : xs.length = ys.length) (h : ∀ (j : Nat) (x y : AV), xs[j]? = some x → ys[j]? = some y → WkA m m' x y) : WkO m m' (.box xs) (.box ys) := ⟨hl, h⟩
theorem wkO1 {x y : AV} (h : WkA m m' x y) : WkO m m' (.box [x]) (.box [y]) := ⟨rfl, fun j a b ha hb => by
  cases j with
  | zero => simp at ha hb; subst ha; subst hb; exact h
  | succ j => simp at ha⟩
theorem wkB0 : WkO m m' (.box []) (.box []) := ⟨rfl, fun j x y hx _ => by simp at hx⟩
theorem wkBx {x y : AV} {xs ys : List AV} (h : WkA m m' x y) (hs : WkO m m' (.box xs) (.box ys)) : WkO m m' (.box (x :: xs)) (.box (y :: ys)) := ⟨by have := hs.1; simp [this], fun j a b ha hb => by
  cases j with
  | zero => simp at ha hb; subst ha; subst hb; exact h
  | succ j => exact hs.2 j a b (by simpa using ha) (by simpa using hb)⟩
theorem wkOa {sz e : Nat} {xs ys : List CV} (h : xs = ys) : WkO m m' (.arr sz e xs) (.arr sz e ys) := ⟨rfl, rfl, h⟩
theorem wkOr {o o' : Ob} (h : o = o') : WkO m m' o o' := h ▸ .same _
theorem wkS {s : AS} {ts : List (Nat × AV)} {ms : List (Nat × Ob)} (ht : WkT s.m (mkM ms) s.t (mkT ts)) (hm : WkM s.m (mkM ms) (mkM ms)) : Wk s ⟨mkT ts, mkM ms⟩ := ⟨ht, hm⟩
theorem frB : Fresh U ⟨mkT [], mkM []⟩ := fun d _ => noId.t0 d
theorem frT {d : Nat} {v : AV} {r : List (Nat × AV)} {ms : List (Nat × Ob)} (hv : ∀ d, d ∉ U → NoId d v) (h : Fresh U ⟨mkT r, mkM ms⟩) : Fresh U ⟨mkT ((d, v) :: r), mkM ms⟩ := fun k hk => noId.put (h k hk) (hv k hk)
theorem frM {d : Nat} {o : Ob} {ts : List (Nat × AV)} {r : List (Nat × Ob)} (ho : ∀ d, d ∉ U → o.noId d) (h : Fresh U ⟨mkT ts, mkM r⟩) : Fresh U ⟨mkT ts, mkM ((d, o) :: r)⟩ := fun k hk => noId.upd (h k hk) (ho k hk)
theorem fvC {x : CV} : ∀ d, d ∉ U → NoId d (.c x) := fun d _ => .c x
theorem fvA : ∀ d, d ∉ U → NoId d .any := fun d _ => .any
theorem inU {i : Nat} (h : U.contains i = true) : ∀ d, d ∉ U → i ≠ d := fun d hd e => hd (e ▸ by simpa using h)
theorem fvL {i off : Nat} (h : U.contains i = true) : ∀ d, d ∉ U → NoId d (.loc i off) := fun d hd => .loc (inU h d hd)
theorem fvM {i n : Nat} (h : U.contains i = true) : ∀ d, d ∉ U → NoId d (.ms i n) := fun d hd => .ms (inU h d hd)
theorem fvG {xs : List AV} (h : ∀ d, d ∉ U → ∀ x ∈ xs, NoId d x) : ∀ d, d ∉ U → NoId d (.agg xs) := fun d hd => .agg fun j y hy => h d hd y (List.mem_of_getElem? hy)
theorem fvN : ∀ d, d ∉ U → ∀ x ∈ ([] : List AV), NoId d x := fun d _ x hx => by simp at hx
theorem fvK {y : AV} {xs : List AV} (hy : ∀ d, d ∉ U → NoId d y) (h : ∀ d, d ∉ U → ∀ x ∈ xs, NoId d x) : ∀ d, d ∉ U → ∀ x ∈ y :: xs, NoId d x := fun d hd x hx => by
  rcases List.mem_cons.1 hx with rfl | hx
  · exact hy d hd
  · exact h d hd x hx
theorem fvCa (v : V) : ∀ d, d ∉ U → ∀ x ∈ v.ca, NoId d x := fun d _ x hx => by
  simp only [V.ca, List.mem_cons, List.not_mem_nil, or_false] at hx
  rcases hx with rfl | rfl | rfl | rfl | rfl <;> exact .c _
theorem foB {xs : List AV} (h : ∀ d, d ∉ U → ∀ x ∈ xs, NoId d x) : ∀ d, d ∉ U → Ob.noId d (.box xs) := fun d hd j y hy => h d hd y (List.mem_of_getElem? hy)
theorem foA {sz e : Nat} {xs : List CV} : ∀ d, d ∉ U → Ob.noId d (.arr sz e xs) := fun d _ => trivial
end
/-! what its reading tells of a value -/
theorem Pure.fact {P : Program} {f : FuncId} {args rs : List CV} {φ : Prop} (j : Nat) {x : CV} (hx : args[j]? = some x) (hb : HasBody P f) (hφ : ∀ (w : World) (L : Nat → Prop) (u : Value), Rep w L u x → φ) (h : φ → Pure P f args rs) : Pure P f args rs :=
  ⟨hb, fun w L vs hl hr hL => (h (hφ w L _ (hr j x hx))).2 w L vs hl hr hL⟩
theorem sl_len {w : World} {L : Nat → Prop} {u : Value} {sz : Nat} {xs : List CV} (h : Rep w L u (.sl sz xs)) : xs.length ≤ maxLen := by
  cases h with | sl g hn hcap hmax => omega
theorem vl_len {w : World} {L : Nat → Prop} {u : Value} {l : List V} (h : Rep w L u (.sl 5 (l.map V.cv))) : l.length ≤ maxLen := by simpa using sl_len h
theorem cv_len {w : World} {L : Nat → Prop} {u : Value} {v : V} (h : Rep w L u v.cv) : v.l.length ≤ maxLen := by
  rw [V.cv_eq] at h
  cases h with | agg hn hx => exact vl_len (hx 4 _ rfl)
theorem wrap_id {n : Int} (h1 : -9223372036854775808 ≤ n) (h2 : n < 9223372036854775808) : IntKind.i64.wrap n = n := by
  simp only [IntKind.wrap, IntKind.signed, IntKind.bits]
  simp
  omega
theorem wrapS {k n : Nat} (hk : k < n) (hn : n ≤ maxLen) : IntKind.i64.wrap ((k : Int) + 1) = ((k + 1 : Nat) : Int) := by
  simp only [maxLen] at hn
  rw [wrap_id (by omega) (by omega)]; rfl
theorem ToCs.idc (cs : List CV) : ToCs (cs.map .c) cs := ⟨by simp, fun j x y hx hy => by
  rw [List.getElem?_map, hy] at hx; cases hx; exact .c (.refl _)⟩
/-! slices written out -/
inductive ToVs : List AV → List V → Prop where
  | nil : ToVs [] []
  | cons {x : AV} {v : V} {xs : List AV} {vs : List V} (h : ToC x v.cv) (hs : ToVs xs vs) : ToVs (x :: xs) (v :: vs)
theorem ToVs.cs {xs : List AV} {vs : List V} (h : ToVs xs vs) : ToCs xs (vs.map V.cv) := by
  induction h with
  | nil => exact .nil
  | cons h hs ih => exact .cons h ih
theorem bsV {E : Env} {m : Nat → Option Ob} {ev : Operand → AV} {t : TypeId} {e n : Nat} {ps : List (Nat × Operand)} {vs : List V} {d de : TD} (hx : ToVs (ps.map fun p => ev p.2) vs) (ht : E.Ty t = some d) (hd : d.desc = .slice e) (he : E.Ty e = some de) (hs : de.sz = 5)
    (hn : n = vs.length) (hi : ps.map (·.1) = List.range n) (hb : Nat.ble n 1000 = true) : StepV E m ev (.buildSlice t n ⟨ps⟩) (.c (.sl 5 (vs.map V.cv))) [] := by
  subst hn
  have := StepV.bslice (E := E) (m := m) (ev := ev) (t := t) (parts := ⟨ps⟩) (xs := vs.map V.cv) ht hd he hs rfl (by simpa using hi) hx.cs (fun x hx => by
    obtain ⟨v, _, rfl⟩ := List.mem_map.1 hx; exact ⟨V.cells_len v, V.plain v⟩) (by have := Nat.le_of_ble_eq_true hb; simp; omega)
  simpa using this
theorem map_cells_one (vs : List V) : ∀ y ∈ vs.map V.cv, ∀ c ∈ y.cells, c.one = true := fun y hy => by
  obtain ⟨v, _, rfl⟩ := List.mem_map.1 hy; exact V.one v
/-- Values are added to a list of the call's own: to an empty one, to one that it has. -/
theorem apN {E : Env} {m : Nat → Option Ob} {ev : Operand → AV} {d : Tmp} {t : TypeId} {x y : Operand} {e : Nat} {ys : List V} {td de : TD} (hx : ev x = .c (.v (.slice none 0 0))) (hy : ev y = .c (.sl 5 (ys.map V.cv)))
    (ht : E.Ty t = some td) (hd : td.desc = .slice e) (he : E.Ty e = some de) (hs : Nat.beq de.sz 5 = true) (hbb : Nat.beq de.bytes 64 = true) (hb : ys.length ≤ 1000000) :
    StepR E m ev (some d) (.call { callee := .builtin .append, args := #[x, y], argTypes := #[t, t] }) (.ms d ys.length) [(d, some (.arr 5 e (ys.map V.cv)))] [] [d] := by
  have h1 := Nat.eq_of_beq_eq_true hs
  have h2 := Nat.eq_of_beq_eq_true hbb
  have := StepR.appN (E := E) (m := m) (d := d) hx hy ht hd he h1 (by omega) (by rw [h2]; simp; omega) (by omega) (map_cells_one ys)
  simpa using this
theorem apM {E : Env} {m : Nat → Option Ob} {ev : Operand → AV} {d : Tmp} {t : TypeId} {x y : Operand} {i n e : Nat} {xs ys : List V} {td de : TD} (hx : ev x = .ms i n) (hm : m i = some (.arr 5 e (xs.map V.cv))) (hn : xs.length = n) (hy : ev y = .c (.sl 5 (ys.map V.cv)))
    (ht : E.Ty t = some td) (hd : td.desc = .slice e) (he : E.Ty e = some de) (hs : Nat.beq de.sz 5 = true) (hbb : Nat.beq de.bytes 64 = true) (hb : n + ys.length ≤ 1000000) (h0 : 0 < ys.length) :
    StepR E m ev (some d) (.call { callee := .builtin .append, args := #[x, y], argTypes := #[t, t] }) (.ms d (n + ys.length)) [(i, none), (d, some (.arr 5 e ((xs ++ ys).map V.cv)))] [i] (bif Nat.beq i d then [] else [d]) := by
  have h1 := Nat.eq_of_beq_eq_true hs
  have h2 := Nat.eq_of_beq_eq_true hbb
  have := StepR.appM (E := E) (m := m) (d := d) hx hm (by simpa using hn) hy ht hd he h1 (by rw [h2]; simp; omega) (by omega) (map_cells_one ys) (by simpa using h0)
  simpa using this
theorem wX {m m' : Nat → Option Ob} {x : AV} {b : Nat} (hx : x = .c (.fl b)) (h : ¬ fnan b) : WkA m m' x (.c (.v (.float .f64 b))) := by rw [hx]; exact .le (.ex h)
/-! lists of whatever elements -/
structure Elt (α : Type) where
  g : α → CV
  sz : Nat
  pos : 0 < sz
  len : ∀ a, (g a).cells.length = sz
  plain : ∀ a, (g a).plain = true
  one : ∀ a, ∀ c ∈ (g a).cells, c.one = true
inductive ToGs {α : Type} (G : Elt α) : List AV → List α → Prop where
  | nil : ToGs G [] []
  | cons {x : AV} {v : α} {xs : List AV} {vs : List α} (h : ToC x (G.g v)) (hs : ToGs G xs vs) : ToGs G (x :: xs) (v :: vs)
section
variable {α : Type} {G : Elt α}
theorem ToGs.cs {xs : List AV} {vs : List α} (h : ToGs G xs vs) : ToCs xs (vs.map G.g) := by
  induction h with
  | nil => exact .nil
  | cons h hs ih => exact .cons h ih
theorem bsG {E : Env} {m : Nat → Option Ob} {ev : Operand → AV} {t : TypeId} {e n : Nat} {ps : List (Nat × Operand)} {vs : List α} {d de : TD} (hx : ToGs G (ps.map fun p => ev p.2) vs) (ht : E.Ty t = some d) (hd : d.desc = .slice e) (he : E.Ty e = some de) (hs : de.sz = G.sz)
    (hn : n = vs.length) (hi : ps.map (·.1) = List.range n) (hb : Nat.ble n 1000 = true) (h8 : Nat.ble G.sz 8 = true) : StepV E m ev (.buildSlice t n ⟨ps⟩) (.c (.sl G.sz (vs.map G.g))) [] := by
  subst hn
  have h1 := Nat.le_of_ble_eq_true hb
  have h2 := Nat.le_of_ble_eq_true h8
  have h3 : vs.length * G.sz ≤ 1000 * 8 := Nat.mul_le_mul h1 h2
  have := StepV.bslice (E := E) (m := m) (ev := ev) (t := t) (parts := ⟨ps⟩) (xs := vs.map G.g) ht hd he hs (by have := G.pos; cases hb0 : Nat.beq G.sz 0 with | false => rfl | true => have := Nat.eq_of_beq_eq_true hb0; omega) (by simpa using hi) hx.cs (fun x hx => by
    obtain ⟨v, _, rfl⟩ := List.mem_map.1 hx; exact ⟨G.len v, G.plain v⟩) (by simp; omega)
  simpa using this
theorem map_one (vs : List α) : ∀ y ∈ vs.map G.g, ∀ c ∈ y.cells, c.one = true := fun y hy => by
  obtain ⟨v, _, rfl⟩ := List.mem_map.1 hy; exact G.one v
theorem apNG {E : Env} {m : Nat → Option Ob} {ev : Operand → AV} {d : Tmp} {t : TypeId} {x y : Operand} {e : Nat} {ys : List α} {td de : TD} (hx : ev x = .c (.v (.slice none 0 0))) (hy : ev y = .c (.sl G.sz (ys.map G.g)))
    (ht : E.Ty t = some td) (hd : td.desc = .slice e) (he : E.Ty e = some de) (hs : Nat.beq de.sz G.sz = true) (hbb : Nat.ble de.bytes 128 = true) (hb0 : Nat.ble 1 de.bytes = true) (hb : ys.length ≤ 1000000) :
    StepR E m ev (some d) (.call { callee := .builtin .append, args := #[x, y], argTypes := #[t, t] }) (.ms d ys.length) [(d, some (.arr G.sz e (ys.map G.g)))] [] [d] := by
  have h1 := Nat.eq_of_beq_eq_true hs
  have h2 := Nat.le_of_ble_eq_true hbb
  have h3 := Nat.le_of_ble_eq_true hb0
  have h4 : ys.length * de.bytes ≤ 1000000 * 128 := Nat.mul_le_mul hb h2
  have := StepR.appN (E := E) (m := m) (d := d) hx hy ht hd he h1 G.pos (by simp; omega) (by omega) (map_one ys)
  simpa using this
theorem apMG {E : Env} {m : Nat → Option Ob} {ev : Operand → AV} {d : Tmp} {t : TypeId} {x y : Operand} {i n e : Nat} {xs ys : List α} {td de : TD} (hx : ev x = .ms i n) (hm : m i = some (.arr G.sz e (xs.map G.g))) (hn : xs.length = n) (hy : ev y = .c (.sl G.sz (ys.map G.g)))
    (ht : E.Ty t = some td) (hd : td.desc = .slice e) (he : E.Ty e = some de) (hs : Nat.beq de.sz G.sz = true) (hbb : Nat.ble de.bytes 128 = true) (hb0 : Nat.ble 1 de.bytes = true) (hb : n + ys.length ≤ 1000000) (h0 : 0 < ys.length) :
    StepR E m ev (some d) (.call { callee := .builtin .append, args := #[x, y], argTypes := #[t, t] }) (.ms d (n + ys.length)) [(i, none), (d, some (.arr G.sz e ((xs ++ ys).map G.g)))] [i] (bif Nat.beq i d then [] else [d]) := by
  have h1 := Nat.eq_of_beq_eq_true hs
  have h2 := Nat.le_of_ble_eq_true hbb
  have h3 := Nat.le_of_ble_eq_true hb0
  have h4 : (n + ys.length) * de.bytes ≤ 1000000 * 128 := Nat.mul_le_mul hb h2
  have := StepR.appM (E := E) (m := m) (d := d) hx hm (by simpa using hn) hy ht hd he h1 (by simp; omega) (by omega) (map_one ys) (by simpa using h0)
  simpa using this
theorem lnG {E : Env} {m : Nat → Option Ob} {ev : Operand → AV} {t : TypeId} {x : Operand} {l : List α} {e : Nat} {d : TD} (hx : ev x = .c (.sl G.sz (l.map G.g))) (ht : E.Ty t = some d) (hd : d.desc = .slice e) :
    StepV E m ev (.call { callee := .builtin .len, args := #[x], argTypes := #[t] }) (.c (.v (.int .i64 l.length))) [] := by
  have := StepV.lenC (E := E) (m := m) hx ht hd
  rwa [List.length_map] at this
theorem gl_len {w : World} {L : Nat → Prop} {u : Value} {l : List α} (h : Rep w L u (.sl G.sz (l.map G.g))) : l.length ≤ maxLen := by simpa using sl_len h
theorem gy {l : List α} {k : Nat} {y : α} (h : l[k]? = some y) : (l.map G.g)[k]? = some (G.g y) := by rw [List.getElem?_map, h]; rfl
end
/-- Texts, whole numbers, floats. -/
def GS : Elt ByteArray := ⟨fun s => .v (.string s), 1, by decide, fun _ => rfl, fun _ => rfl, fun a c hc => by simp [CV.cells] at hc; subst hc; rfl⟩
def GI (k : IntKind) : Elt Int := ⟨fun n => .v (.int k n), 1, by decide, fun _ => rfl, fun _ => rfl, fun a c hc => by simp [CV.cells] at hc; subst hc; rfl⟩
def GF : Elt Nat := ⟨fun n => .fl n, 1, by decide, fun _ => rfl, fun _ => rfl, fun a c hc => by simp [CV.cells] at hc; subst hc; rfl⟩
theorem wG {m m' : Nat → Option Ob} {α : Type} {G : Elt α} {x : AV} {i n e sz : Nat} {xs ys : List α} (hx : x = .ms i n) (hm : m i = some (.arr sz e (xs.map G.g))) (hn : xs.length = n) (hm' : m' i = none) (hs : sz = G.sz) (h : xs = ys) :
    WkA m m' x (.c (.sl G.sz (ys.map G.g))) := by subst hs; exact wMs hx hm (by simpa using hn) hm' (by rw [h])
end Go.AM

/- The machine's steps, each found by trying; a walk names these laws. It speaks of whatever program. -/
namespace Go.AM
open Go Go.RowKit
set_option linter.unusedVariables false
set_option linter.unusedSimpArgs false

theorem vv {E : Env} {m : Nat → Option Ob} {ev : Operand → AV} {op : Op} {v : AV} {R : List Nat} (h : StepV E m ev op v R := by
  first | (· (first | exact mvC rfl | exact asC rfl | exact .loadL rfl rfl rfl rfl rfl | exact ldA rfl rfl rfl rfl rfl | exact .fldL rfl rfl rfl rfl rfl rfl rfl | exact .binI rfl rfl rfl | exact .extract rfl rfl | exact pkT rfl rfl | exact pkF rfl rfl | exact pkT (hbl ‹_›) rfl | exact pkF (hbl ‹_›) rfl | exact lnV rfl rfl rfl | exact .unN rfl | exact ldV rfl rfl rfl rfl | exact fdV rfl rfl rfl rfl rfl rfl (Nat.le_of_ble_eq_true rfl) | exact .loadC rfl rfl rfl rfl | exact .binS rfl rfl rfl | exact .conv rfl rfl rfl rfl | exact .binBN rfl rfl rfl rfl | exact .binBE rfl rfl rfl rfl | exact .binF rfl rfl rfl rfl rfl | exact .lenS rfl rfl rfl | exact .lenC rfl rfl rfl | exact .lenV rfl rfl rfl | exact .lenM rfl rfl rfl rfl rfl | exact mvM rfl | exact asM rfl | exact mvT rfl | exact asT rfl | exact mvA rfl | exact asA rfl | exact mvL rfl | exact asL rfl | exact .binR rfl rfl rfl | exact .unG rfl | exact .loadCA rfl rfl rfl (Nat.le_of_ble_eq_true rfl) | exact .fldC rfl rfl rfl rfl rfl rfl (Nat.le_of_ble_eq_true rfl) | exact .mkfun rfl | exact .idxC rfl rfl (by decide) rfl rfl rfl rfl rfl | exact ixV rfl rfl (by omega) (by assumption) rfl rfl rfl rfl | (apply bdR rfl rfl rfl; (· (repeat (first | exact FillR.nil _ | (apply FillR.cons rfl rfl; (· (first | exact cV rfl rfl | exact cCv rfl | exact cF rfl | exact cS rfl | exact cA rfl | exact cM rfl rfl rfl | (apply cM rfl rfl; first | assumption | (simp; done) | (simp; omega)) | exact cD rfl | exact cL rfl rfl | exact cG rfl rfl)); (· rfl); (· (repeat (first | exact SetR.done _ | apply SetR.put | apply SetR.skip)))))))) | (apply bsV; (· (repeat (first | exact ToVs.nil | (apply ToVs.cons; (first | exact tE rfl | exact tCv rfl | (apply tV5 rfl; (· first | exact LeC.fl _ | exact LeC.refl _); (· first | exact LeC.nv | exact LeC.refl _))))))); (· rfl); (· rfl); (· rfl); (· rfl); (· rfl); (· rfl); (· rfl)))) | fail) : StepV E m ev op v R := h
theorem oo {E : Env} {m : Nat → Option Ob} {ev : Operand → AV} {dst : Option Tmp} {op : Op} {v : AV} {mw : List (Nat × Option Ob)} {R F : List Nat} (h : StepR E m ev dst op v mw R F := by
  first | (· (first | exact .alloc rfl | exact apN rfl rfl rfl rfl rfl rfl rfl (Nat.le_of_ble_eq_true rfl) | (apply apM rfl rfl; (· first | rfl | assumption | (simp; omega)); (· rfl); (· rfl); (· rfl); (· rfl); (· rfl); (· rfl); (· first | (simp; omega) | omega); (· exact Nat.le_of_ble_eq_true rfl)) | ((first | apply StepR.box | apply stW rfl rfl rfl rfl | apply stR rfl rfl rfl); (· (first | exact cV rfl rfl | exact cCv rfl | exact cF rfl | exact cS rfl | exact cA rfl | exact cM rfl rfl rfl | (apply cM rfl rfl; first | assumption | (simp; done) | (simp; omega)) | exact cD rfl | exact cL rfl rfl | exact cG rfl rfl)); all_goals first | rfl | (· (first | exact AllOne.ca _ | (repeat (first | exact AllOne.nil | (apply AllOne.cons; (first | exact oV rfl rfl | exact oF rfl | exact oS rfl | exact oM rfl rfl rfl | (apply oM rfl rfl; first | assumption | (simp; done) | (simp; omega)) | exact oD rfl | exact oL rfl rfl)))))) | (· (repeat (first | exact SetR.done _ | apply SetR.put | apply SetR.skip)))))) | fail) : StepR E m ev dst op v mw R F := h
theorem ta {xs : List AV} {cs : List CV} (h : ToCs xs cs := by
  first | (· (repeat (first | exact ToCs.nil | (apply ToCs.cons; (first | exact tE rfl | exact tCv rfl | exact tNV rfl | exact tNil rfl rfl | exact tFn0 rfl | exact tF rfl (LeC.fl _) | exact tF rfl (LeC.refl _) | (refine tV5 rfl ?_ ?_ <;> first | exact LeC.fl _ | exact LeC.refl _ | exact LeC.nv | exact LeC.nil _ (by decide))))))) | fail) : ToCs xs cs := h
theorem fr {U : List Nat} {ts : List (Nat × AV)} {ms : List (Nat × Ob)} (h : Fresh U ⟨mkT ts, mkM ms⟩ := by
  first | (· (repeat' (first | exact frB | refine frM ?_ ?_ | refine frT ?_ ?_ | exact fvC | exact fvA | exact fvL rfl | exact fvM rfl | exact foA | refine foB ?_ | exact fvCa _ | exact fvN | refine fvK ?_ ?_ | refine fvG ?_))) | fail) : Fresh U ⟨mkT ts, mkM ms⟩ := h
end Go.AM
