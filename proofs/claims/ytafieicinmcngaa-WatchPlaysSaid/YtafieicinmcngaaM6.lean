/- The abstract machine, part 6: what an operation makes of abstract values. It speaks of whatever program. -/
import Derived.Test.YtafieicinmcngaaM5
import Derived.Laws.BytesArg
import Derived.Laws.Tables
import Derived.Laws.Strings
namespace Go.AM
open Go Go.RowKit
set_option linter.unusedVariables false

structure TD where
  sz : Nat
  bytes : Nat
  zero : List Value
  desc : TypeDesc
def aggD : TypeDesc → Bool
  | .struct _ | .array _ _ => true
  | _ => false

/-- A program, and a table of the types that are met. -/
structure Env where
  P : Program
  Ty : Nat → Option TD
  ok : ∀ t d, Ty t = some d → P.underlying t = some d.desc ∧ ∃ i, P.info? t = some i ∧ i.size = d.sz ∧ i.bytes = d.bytes ∧ ∃ z, i.zero = some z ∧ z.cells.toList = d.zero
  zl : ∀ t d, Ty t = some d → d.zero.length = d.sz
  mixed : P.follows .mixedOrders = true

def AS.ev (s : AS) : Operand → AV
  | .tmp t => s.t t
  | .const v => .c (.v v)
  | .global _ => .any
  | .func f => .c (.v (.func (.func f) #[] #[]))

/-! ### what is handed over and back -/
inductive LeC : CV → CV → Prop where
  | refl (x : CV) : LeC x x
  | nil (sz : Nat) (h : 0 < sz) : LeC (.v (.slice none 0 0)) (.sl sz [])
  | fl (b : Nat) : LeC (.v (.float .f64 b)) (.fl b)
  | agg {xs ys : List CV} (hn : xs.length = ys.length) (h : ∀ (j : Nat) (x y : CV), xs[j]? = some x → ys[j]? = some y → LeC x y) : LeC (.agg xs) (.agg ys)
  | ex {b : Nat} (h : ¬ fnan b) : LeC (.fl b) (.v (.float .f64 b))
  | fn0 (f : FuncId) : LeC (.v (.func (.func f) #[] #[])) (.fn f [])
theorem LeC.rep {w : World} {L : Nat → Prop} {x y : CV} (h : LeC x y) : ∀ v, Rep w L v x → Rep w L v y := by
  induction h with
  | refl x => exact fun v h => h
  | ex hn => intro v h; cases h with | fl h => rcases h with rfl | ⟨_, h⟩; exact .v _; exact absurd h hn
  | fn0 f => intro v h; cases h; exact .fn (vs := []) rfl fun j y hy => by simp at hy
  | nil sz h =>
    intro v hv; cases hv
    exact .sl (fun _ _ => undef) rfl (Nat.le_refl _) (by simp [maxLen]) h (fun h => absurd h (by omega)) (fun i x hx => by simp at hx) (fun i x hx => by simp at hx)
  | fl b => intro v hv; cases hv; exact .fl (flRel.refl _)
  | agg hn h ih =>
    intro v hv
    cases hv with
    | agg hn' hx =>
      refine .agg (hn'.trans hn) fun j y hy => ?_
      rename_i xs ys vs
      have hj : j < xs.length := by rw [hn]; exact (List.getElem?_eq_some_iff.1 hy).1
      exact ih j _ y (List.getElem?_eq_getElem hj) hy _ (hx j _ (List.getElem?_eq_getElem hj))
inductive ToC : AV → CV → Prop where
  | c {x y : CV} (h : LeC x y) : ToC (.c x) y
  | agg {xs : List AV} {ys : List CV} (hn : xs.length = ys.length) (h : ∀ (j : Nat) (x : AV) (y : CV), xs[j]? = some x → ys[j]? = some y → ToC x y) : ToC (.agg xs) (.agg ys)
theorem ToC.rep {w : World} {L : Nat → Prop} {ρ : Nat → Value} {m : Nat → Option Ob} {x : AV} {y : CV} (h : ToC x y) : ∀ v, RepA w L ρ m v x → Rep w L v y := by
  induction h with
  | c h => intro v hv; cases hv with | c hv => exact h.rep v hv
  | agg hn h ih =>
    intro v hv
    cases hv with
    | agg hn' hx =>
      refine .agg (hn'.trans hn) fun j y hy => ?_
      rename_i xs ys vs
      have hj : j < xs.length := by rw [hn]; exact (List.getElem?_eq_some_iff.1 hy).1
      exact ih j _ y (List.getElem?_eq_getElem hj) hy _ (hx j _ (List.getElem?_eq_getElem hj))
def ToCs (xs : List AV) (ys : List CV) : Prop := xs.length = ys.length ∧ ∀ (j : Nat) (x : AV) (y : CV), xs[j]? = some x → ys[j]? = some y → ToC x y
theorem ToCs.nil : ToCs [] [] := ⟨rfl, fun j x y hx => by simp at hx⟩
theorem ToCs.cons {x : AV} {y : CV} {xs : List AV} {ys : List CV} (h : ToC x y) (hs : ToCs xs ys) : ToCs (x :: xs) (y :: ys) := by
  refine ⟨by simp [hs.1], fun j a b ha hb => ?_⟩
  cases j with
  | zero => simp at ha hb; subst ha; subst hb; exact h
  | succ j => simp at ha hb; exact hs.2 j a b ha hb
theorem ToC.aggs {xs : List AV} {ys : List CV} (h : ToCs xs ys) : ToC (.agg xs) (.agg ys) := .agg h.1 h.2

def ResRel (w : World) (L : Nat → Prop) (v : Value) (rs : List CV) : Prop :=
  match rs with
  | [x] => Rep w L v x
  | rs => ∃ vs, v = .tuple ⟨vs⟩ ∧ vs.length = rs.length ∧ ∀ (j : Nat) (y : CV), rs[j]? = some y → Rep w L (vs.getD j undef) y
def resAV (rs : List CV) : AV :=
  match rs with
  | [x] => .c x
  | rs => .tup (rs.map .c)
theorem ResRel.repA {w : World} {L : Nat → Prop} {ρ : Nat → Value} {m : Nat → Option Ob} {v : Value} {rs : List CV} (h : ResRel w L v rs) : RepA w L ρ m v (resAV rs) := by
  unfold ResRel at h; unfold resAV
  split at h
  · exact .c h
  · rename_i hne
    obtain ⟨vs, rfl, hn, hx⟩ := h
    refine .tup (by simpa using hn) fun j y hy => ?_
    simp only [List.getElem?_map] at hy
    obtain ⟨z, hz, rfl⟩ := Option.map_eq_some_iff.1 hy
    exact .c (hx j z hz)

def HasBody (P : Program) (f : FuncId) : Prop := ∃ fn, P.funcs[f]? = some fn ∧ fn.body.isNone = false ∧ (fn.name == "runtime.NumGoroutine") = false
/-- A function of content alone: what it hands back reads as rs; nothing old has turned. -/
def Pure (P : Program) (f : FuncId) (args : List CV) (rs : List CV) : Prop := HasBody P f ∧
  ∀ (w : World) (L : Nat → Prop) (vs : List Value), vs.length = args.length → (∀ (j : Nat) (y : CV), args[j]? = some y → Rep w L (vs.getD j undef) y) → (∀ b, L b → b < w.heap.size) →
    Calls P f ⟨vs⟩ w fun e w' => ∃ v, e = .returned v ∧ ResRel w' L v rs ∧ Keep (fun _ => False) w w'
/-- The same of a function without a body. -/
def PureX (P : Program) (f : FuncId) (args : List CV) (r : CV) : Prop :=
  ∀ (w : World) (L : Nat → Prop) (vs : List Value), vs.length = args.length → (∀ (j : Nat) (y : CV), args[j]? = some y → Rep w L (vs.getD j undef) y) →
    ∃ v, (callFunc f ⟨vs⟩).run P w = .ok (.value v) w ∧ Rep w L v r

/-- What a call may look at, that hands back no address: objects' contents too (the last list names them). -/
inductive ToB (m : Nat → Option Ob) : List AV → List CV → List Nat → Prop where
  | nil : ToB m [] [] []
  | c {x : AV} {y : CV} {xs : List AV} {ys : List CV} {R : List Nat} (h : ToC x y) (hs : ToB m xs ys R) : ToB m (x :: xs) (y :: ys) R
  | ms {i n sz e : Nat} {zs : List CV} {xs : List AV} {ys : List CV} {R : List Nat} (hm : m i = some (.arr sz e zs)) (hn : zs.length = n) (hs : ToB m xs ys R) : ToB m (.ms i n :: xs) (.sl sz zs :: ys) (i :: R)
  | agg {us : List AV} {vs : List CV} {xs : List AV} {ys : List CV} {R R' : List Nat} (h : ToB m us vs R) (hs : ToB m xs ys R') : ToB m (.agg us :: xs) (.agg vs :: ys) (R ++ R')
def CV.atom : CV → Bool
  | .v _ => true
  | .fl _ => true
  | _ => false
def CV.scalar : CV → Bool
  | .agg cs => cs.all CV.atom
  | x => x.atom

/-! ### cells -/
inductive One (m : Nat → Option Ob) : AV → List Nat → Prop where
  | v {u : Value} (h : u.oneCell' = true) : One m (.c (.v u)) []
  | fl (b : Nat) : One m (.c (.fl b)) []
  | sl (sz : Nat) (xs : List CV) : One m (.c (.sl sz xs)) []
  | ad (cs : List CV) : One m (.c (.ad cs)) []
  | ms {i n sz e : Nat} {xs : List CV} (hm : m i = some (.arr sz e xs)) (hn : xs.length = n) : One m (.ms i n) [i]
  | loc {i off : Nat} {cs : List AV} (hm : m i = some (.box cs)) : One m (.loc i off) [i]
inductive Cells (m : Nat → Option Ob) : AV → List AV → List Nat → Prop where
  | agg (xs : List AV) : Cells m (.agg xs) xs []
  | cagg (cs : List CV) : Cells m (.c (.agg cs)) (cs.map .c) []
  | one {x : AV} {R : List Nat} (h : One m x R) : Cells m x [x] R
inductive AllOne (m : Nat → Option Ob) : List AV → List Nat → Prop where
  | nil : AllOne m [] []
  | cons {x : AV} {xs : List AV} {R R' : List Nat} (h : One m x R) (hs : AllOne m xs R') : AllOne m (x :: xs) (R ++ R')

def CV.plain : CV → Bool
  | .v (.agg _) => false
  | _ => true

/-! ### plain operations on exact values -/
def intV (op : BinOp) (k : IntKind) (a b : Int) : Option Value :=
  match op with
  | .add => some (.int k (k.wrap (a + b)))
  | .sub => some (.int k (k.wrap (a - b)))
  | .mul => some (.int k (k.wrap (a * b)))
  | .eql => some (.bool (a == b))
  | .neq => some (.bool (a != b))
  | .lss => some (.bool (a < b))
  | .leq => some (.bool (a ≤ b))
  | .gtr => some (.bool (a > b))
  | .geq => some (.bool (a ≥ b))
  | _ => none
def strV (op : BinOp) (a b : ByteArray) : Option Value :=
  match op with
  | .eql => some (.bool (a.toList == b.toList))
  | .neq => some (.bool !(a.toList == b.toList))
  | .lss => some (.bool (Op.bytesLess a.toList b.toList))
  | .leq => some (.bool (Op.bytesLess a.toList b.toList || a.toList == b.toList))
  | .gtr => some (.bool !(Op.bytesLess a.toList b.toList || a.toList == b.toList))
  | .geq => some (.bool !(Op.bytesLess a.toList b.toList))
  | _ => none
def flV (op : BinOp) (a b : Nat) : Option Bool :=
  let c := FloatKind.f64.format.order a b
  match op with
  | .eql => some (c == some .eq)
  | .neq => some (c != some .eq)
  | .lss => some (c == some .lt)
  | .leq => some (c == some .lt || c == some .eq)
  | .gtr => some (c == some .gt)
  | .geq => some (c == some .gt || c == some .eq)
  | _ => none
def asF : CV → Option Nat
  | .fl b => some b
  | .v (.float .f64 b) => some b
  | _ => none

def setMany (cells : List AV) (off : Nat) (ys : List AV) : List AV := cells.take off ++ ys ++ cells.drop (off + ys.length)

/-- The parts of a composite, filled in. -/
inductive Fill (E : Env) (m : Nat → Option Ob) (fs : Array Field) : List AV → List (Nat × AV) → List AV → List Nat → Prop where
  | nil (cells : List AV) : Fill E m fs cells [] cells []
  | cons {cells : List AV} {i : Nat} {v : AV} {ys : List AV} {rest : List (Nat × AV)} {out : List AV} {fld : Field} {fd : TD} {R R' : List Nat}
      (hf : fs[i]? = some fld) (ht : E.Ty fld.type = some fd) (hc : Cells m v ys R) (hl : ys.length = fd.sz) (hb : fld.offset + fd.sz ≤ cells.length)
      (h : Fill E m fs (setMany cells fld.offset ys) rest out R') : Fill E m fs cells ((i, v) :: rest) out (R ++ R')

/-- A value that an operation makes of values (and of objects' cells: the last list names the objects). -/
inductive StepV (E : Env) (m : Nat → Option Ob) (ev : Operand → AV) : Op → AV → List Nat → Prop where
  | move (x : Operand) : StepV E m ev (.move x) (ev x) []
  | assign (x : Operand) : StepV E m ev (.assign x) (ev x) []
  | pickT {c a b : Operand} (hc : ev c = .c (.v (.bool true))) : StepV E m ev (.pick c a b) (ev a) []
  | pickF {c a b : Operand} (hc : ev c = .c (.v (.bool false))) : StepV E m ev (.pick c a b) (ev b) []
  | loadL {t : TypeId} {x : Operand} {i off : Nat} {cells : List AV} {d : TD} {y : AV} (hx : ev x = .loc i off) (hm : m i = some (.box cells)) (ht : E.Ty t = some d)
      (hd : aggD d.desc = false) (hy : cells[off]? = some y) : StepV E m ev (.load t x) y [i]
  | loadLA {t : TypeId} {x : Operand} {i off : Nat} {cells : List AV} {d : TD} (hx : ev x = .loc i off) (hm : m i = some (.box cells)) (ht : E.Ty t = some d)
      (hd : aggD d.desc = true) (hl : off + d.sz ≤ cells.length) : StepV E m ev (.load t x) (.agg ((cells.drop off).take d.sz)) [i]
  | loadC {t : TypeId} {x : Operand} {cs : List CV} {d : TD} {y : CV} (hx : ev x = .c (.ad cs)) (ht : E.Ty t = some d)
      (hd : aggD d.desc = false) (hy : cs[0]? = some y) : StepV E m ev (.load t x) (.c y) []
  | loadCA {t : TypeId} {x : Operand} {cs : List CV} {d : TD} (hx : ev x = .c (.ad cs)) (ht : E.Ty t = some d)
      (hd : aggD d.desc = true) (hl : d.sz ≤ cs.length) : StepV E m ev (.load t x) (.c (.agg (cs.take d.sz))) []
  | loadE {t : TypeId} {x : Operand} {i n sz k off e : Nat} {xs : List CV} {x0 y : CV} {d : TD} (hx : ev x = .el i n sz k off) (hm : m i = some (.arr sz e xs)) (hn : xs.length = n) (hk : xs[k]? = some x0)
      (ht : E.Ty t = some d) (hd : aggD d.desc = false) (hy : x0.cells[off]? = some y) : StepV E m ev (.load t x) (.c y) [i]
  | loadEA {t : TypeId} {x : Operand} {i n sz k off e : Nat} {xs : List CV} {x0 : CV} {d : TD} (hx : ev x = .el i n sz k off) (hm : m i = some (.arr sz e xs)) (hn : xs.length = n) (hk : xs[k]? = some x0)
      (ht : E.Ty t = some d) (hd : aggD d.desc = true) (hl : off + d.sz ≤ x0.cells.length) : StepV E m ev (.load t x) (.c (.agg ((x0.cells.drop off).take d.sz))) [i]
  | fldL {t : TypeId} {x : Operand} {f i off : Nat} {cells : List AV} {d fd : TD} {fs : Array Field} {fld : Field} (hx : ev x = .loc i off) (hm : m i = some (.box cells)) (ht : E.Ty t = some d) (hd : d.desc = .struct fs)
      (hf : fs[f]? = some fld) (h2 : E.Ty fld.type = some fd) (h0 : Nat.beq fd.sz 0 = false) : StepV E m ev (.fieldAddr t x f) (.loc i (off + fld.offset)) [i]
  | fldC {t : TypeId} {x : Operand} {f : Nat} {cs : List CV} {d fd : TD} {fs : Array Field} {fld : Field} (hx : ev x = .c (.ad cs)) (ht : E.Ty t = some d) (hd : d.desc = .struct fs)
      (hf : fs[f]? = some fld) (h2 : E.Ty fld.type = some fd) (h0 : Nat.beq fd.sz 0 = false) (hl : fld.offset < cs.length) : StepV E m ev (.fieldAddr t x f) (.c (.ad (cs.drop fld.offset))) []
  | fldE {t : TypeId} {x : Operand} {f i n sz k off e : Nat} {xs : List CV} {d fd : TD} {fs : Array Field} {fld : Field} (hx : ev x = .el i n sz k off) (hm : m i = some (.arr sz e xs)) (hn : xs.length = n) (ht : E.Ty t = some d) (hd : d.desc = .struct fs)
      (hf : fs[f]? = some fld) (h2 : E.Ty fld.type = some fd) (h0 : Nat.beq fd.sz 0 = false) : StepV E m ev (.fieldAddr t x f) (.el i n sz k (off + fld.offset)) [i]
  | idxC {t : TypeId} {x ix : Operand} {sz e : Nat} {xs : List CV} {k : IntKind} {n : Int} {y : CV} {d de : TD} (hx : ev x = .c (.sl sz xs)) (hi : ev ix = .c (.v (.int k n))) (h0 : 0 ≤ n) (hy : xs[n.toNat]? = some y)
      (ht : E.Ty t = some d) (hd : d.desc = .slice e) (he : E.Ty e = some de) (hs : de.sz = sz) : StepV E m ev (.indexAddr t x ix) (.c (.ad y.cells)) []
  | idxM {t : TypeId} {x ix : Operand} {i n0 sz e e' : Nat} {xs : List CV} {k : IntKind} {n : Int} {d de : TD} (hx : ev x = .ms i n0) (hm : m i = some (.arr sz e' xs)) (hn : xs.length = n0)
      (hi : ev ix = .c (.v (.int k n))) (h0 : 0 ≤ n) (hlt : n < n0) (ht : E.Ty t = some d) (hd : d.desc = .slice e) (he : E.Ty e = some de) (hs : de.sz = sz) : StepV E m ev (.indexAddr t x ix) (.el i n0 sz n.toNat 0) [i]
  | idxS {t : TypeId} {x ix : Operand} {b : ByteArray} {k : IntKind} {n : Int} {d : TD} (hx : ev x = .c (.v (.string b))) (hi : ev ix = .c (.v (.int k n))) (h0 : 0 ≤ n) {c : UInt8} (hc : b[n.toNat]? = some c)
      (ht : E.Ty t = some d) (hd : d.desc = .string) : StepV E m ev (.index t x ix) (.c (.v (.int .u8 c.toNat))) []
  | lenC {t : TypeId} {x : Operand} {sz e : Nat} {xs : List CV} {d : TD} (hx : ev x = .c (.sl sz xs)) (ht : E.Ty t = some d) (hd : d.desc = .slice e) :
      StepV E m ev (.call { callee := .builtin .len, args := #[x], argTypes := #[t] }) (.c (.v (.int .i64 xs.length))) []
  | lenV {t : TypeId} {x : Operand} {a : Option Addr} {n c e : Nat} {d : TD} (hx : ev x = .c (.v (.slice a n c))) (ht : E.Ty t = some d) (hd : d.desc = .slice e) :
      StepV E m ev (.call { callee := .builtin .len, args := #[x], argTypes := #[t] }) (.c (.v (.int .i64 n))) []
  | lenM {t : TypeId} {x : Operand} {i n sz e e' : Nat} {xs : List CV} {d : TD} (hx : ev x = .ms i n) (hm : m i = some (.arr sz e' xs)) (hn : xs.length = n) (ht : E.Ty t = some d) (hd : d.desc = .slice e) :
      StepV E m ev (.call { callee := .builtin .len, args := #[x], argTypes := #[t] }) (.c (.v (.int .i64 n))) [i]
  | lenS {t : TypeId} {x : Operand} {b : ByteArray} {d : TD} (hx : ev x = .c (.v (.string b))) (ht : E.Ty t = some d) (hd : d.desc = .string) :
      StepV E m ev (.call { callee := .builtin .len, args := #[x], argTypes := #[t] }) (.c (.v (.int .i64 b.size))) []
  | binI {op : BinOp} {t u : TypeId} {x y : Operand} {k : IntKind} {a b : Int} {r : Value} (hx : ev x = .c (.v (.int k a))) (hy : ev y = .c (.v (.int k b))) (hr : intV op k a b = some r) :
      StepV E m ev (.binOp op t x y u) (.c (.v r)) []
  | binR {t u : TypeId} {x y : Operand} {k : IntKind} {a b : Int} (hx : ev x = .c (.v (.int k a))) (hy : ev y = .c (.v (.int k b))) (hb : (b == 0) = false) :
      StepV E m ev (.binOp .rem t x y u) (.c (.v (.int k (a.tmod b)))) []
  | binS {op : BinOp} {t u : TypeId} {x y : Operand} {a b : ByteArray} {r : Value} (hx : ev x = .c (.v (.string a))) (hy : ev y = .c (.v (.string b))) (hr : strV op a b = some r) :
      StepV E m ev (.binOp op t x y u) (.c (.v r)) []
  | binSA {t u : TypeId} {x y : Operand} {a b : ByteArray} (hx : ev x = .c (.v (.string a))) (hy : ev y = .c (.v (.string b))) (hl : a.size + b.size ≤ 9223372036854775807) :
      StepV E m ev (.binOp .add t x y u) (.c (.v (.string (a ++ b)))) []
  | binBE {t u : TypeId} {x y : Operand} {a b : Bool} {d : TD} (hx : ev x = .c (.v (.bool a))) (hy : ev y = .c (.v (.bool b))) (ht : E.Ty t = some d) (hd : d.desc = .bool) :
      StepV E m ev (.binOp .eql t x y u) (.c (.v (.bool (a == b)))) []
  | binBN {t u : TypeId} {x y : Operand} {a b : Bool} {d : TD} (hx : ev x = .c (.v (.bool a))) (hy : ev y = .c (.v (.bool b))) (ht : E.Ty t = some d) (hd : d.desc = .bool) :
      StepV E m ev (.binOp .neq t x y u) (.c (.v (.bool !(a == b)))) []
  | binF {op : BinOp} {t u : TypeId} {x y : Operand} {cx cy : CV} {a b : Nat} {r : Bool} (hx : ev x = .c cx) (hy : ev y = .c cy) (ha : asF cx = some a) (hb : asF cy = some b) (hr : flV op a b = some r) :
      StepV E m ev (.binOp op t x y u) (.c (.v (.bool r))) []
  | binFA {t u : TypeId} {x y : Operand} {cx cy : CV} {a b : Nat} (hx : ev x = .c cx) (hy : ev y = .c cy) (ha : asF cx = some a) (hb : asF cy = some b) :
      StepV E m ev (.binOp .add t x y u) (.c (.fl (addF a b))) []
  | unN {t : TypeId} {x : Operand} {b : Bool} (hx : ev x = .c (.v (.bool b))) : StepV E m ev (.unOp .not t x) (.c (.v (.bool !b))) []
  | unG {t : TypeId} {x : Operand} {k : IntKind} {n : Int} (hx : ev x = .c (.v (.int k n))) : StepV E m ev (.unOp .neg t x) (.c (.v (.int k (k.wrap (0 - n))))) []
  | conv {t u : TypeId} {x : Operand} {k k' : IntKind} {n : Int} {d d' : TD} (hx : ev x = .c (.v (.int k n))) (ht : E.Ty t = some d) (hu : E.Ty u = some d') (hd : d'.desc = .int k') :
      StepV E m ev (.convert t u x) (.c (.v (.int k' (k'.wrap n)))) []
  | convF {t u : TypeId} {x : Operand} {k : IntKind} {n : Int} {d d' : TD} (hx : ev x = .c (.v (.int k n))) (ht : E.Ty t = some d) (hu : E.Ty u = some d') (hd : d'.desc = .float .f64) :
      StepV E m ev (.convert t u x) (.c (.fl (FloatKind.f64.nearest n))) []
  | convB {t u : TypeId} {x : Operand} {e : Nat} {bs : List Int} {d de d' : TD} (hx : ev x = .c (.sl 1 (bs.map fun b => .v (.int .u8 b)))) (ht : E.Ty t = some d) (hd : d.desc = .slice e) (he : E.Ty e = some de) (hde : de.desc = .int .u8)
      (hu : E.Ty u = some d') (hd' : d'.desc = .string) : StepV E m ev (.convert t u x) (.c (.v (.string (strOfNums bs)))) []
  | extract {x : Operand} {j : Nat} {xs : List AV} {y : AV} (hx : ev x = .tup xs) (hy : xs[j]? = some y) : StepV E m ev (.extract x j) y []
  | build {t : TypeId} {parts : Array (Nat × Operand)} {d : TD} {fs : Array Field} {out : List AV} {R : List Nat} (ht : E.Ty t = some d) (hd : d.desc = .struct fs) (ha : fs.toList.all (fun f => (E.Ty f.type).isSome) = true)
      (hf : Fill E m fs (d.zero.map fun z => .c (.v z)) (parts.toList.map fun p => (p.1, ev p.2)) out R) : StepV E m ev (.build t parts) (.agg out) R
  | slc {t : TypeId} {x : Operand} {lo hi : Option Operand} {sz e l h : Nat} {xs : List CV} {d de : TD} (hx : ev x = .c (.sl sz xs)) (ht : E.Ty t = some d) (hd : d.desc = .slice e) (he : E.Ty e = some de) (hs : de.sz = sz)
      (hlo : match lo with | some o => ∃ k n, ev o = .c (.v (.int k n)) ∧ 0 ≤ n ∧ n.toNat = l | none => l = 0)
      (hhi : match hi with | some o => ∃ k n, ev o = .c (.v (.int k n)) ∧ 0 ≤ n ∧ n.toNat = h | none => h = xs.length) (hlh : l ≤ h) (hh : h ≤ xs.length) :
      StepV E m ev (.slice t x lo hi none) (.c (.sl sz ((xs.drop l).take (h - l)))) []
  | mkfun {fn : Fn} {captured : Array Operand} {us : List Value} (hc : captured.toList.map ev = us.map fun u => .c (.v u)) : StepV E m ev (.makeFunc fn #[] captured) (.c (.v (.func fn #[] ⟨us⟩))) []
  | mkfunC {f : FuncId} {captured : Array Operand} {cs : List CV} (hc : ToCs (captured.toList.map ev) cs) : StepV E m ev (.makeFunc (.func f) #[] captured) (.c (.fn f cs)) []
  | boxC {t : TypeId} {x : Operand} {y : CV} (hx : ToC (ev x) y) (hp : y.plain = true) (h0 : 0 < y.cells.length) : StepV E m ev (.box t x) (.c (.ad y.cells)) []
  | bslice {t : TypeId} {e sz : Nat} {parts : Array (Nat × Operand)} {xs : List CV} {d de : TD} (ht : E.Ty t = some d) (hd : d.desc = .slice e) (he : E.Ty e = some de) (hs : de.sz = sz) (h0 : Nat.beq sz 0 = false)
      (hi : parts.toList.map (·.1) = List.range xs.length) (hx : ToCs (parts.toList.map fun p => ev p.2) xs) (hl : ∀ x ∈ xs, x.cells.length = sz ∧ x.plain = true) (hb : xs.length * sz ≤ 16777216) :
      StepV E m ev (.buildSlice t xs.length parts) (.c (.sl sz xs)) []
  | mkslice {t : TypeId} {x y : Operand} {e : Nat} {k k' : IntKind} {n : Nat} {d de : TD} {z : Value} (hx : ev x = .c (.v (.int k n))) (hy : ev y = .c (.v (.int k' n))) (ht : E.Ty t = some d) (hd : d.desc = .slice e) (he : E.Ty e = some de)
      (hz : de.zero = [z]) (hs : de.sz = 1) (hb : n * de.bytes ≤ 140737488355328) (hn : n ≤ 140737488355328) : StepV E m ev (.makeSlice t x y) (.c (.sl 1 (List.replicate n (.v z)))) []
  | callP {callee : Operand} {args : Array Operand} {ats : Array TypeId} {f : FuncId} {us : List Value} {xs : List AV} {cs rs : List CV} (hc : ev callee = .c (.v (.func (.func f) #[] ⟨us⟩)))
      (hx : args.toList.map ev = xs) (ha : ToCs (xs ++ us.map fun u => .c (.v u)) cs) (hp : Pure E.P f cs rs) : StepV E m ev (.call { callee := .value callee, args := args, argTypes := ats }) (resAV rs) []
  | callF {callee : Operand} {args : Array Operand} {ats : Array TypeId} {f : FuncId} {us : List CV} {xs : List AV} {cs rs : List CV} (hc : ev callee = .c (.fn f us))
      (hx : args.toList.map ev = xs) (ha : ToCs (xs ++ us.map .c) cs) (hp : Pure E.P f cs rs) : StepV E m ev (.call { callee := .value callee, args := args, argTypes := ats }) (resAV rs) []
  | callX {callee : Operand} {args : Array Operand} {ats : Array TypeId} {f : FuncId} {xs : List AV} {cs : List CV} {r : CV} (hc : ev callee = .c (.v (.func (.func f) #[] #[])))
      (hx : args.toList.map ev = xs) (ha : ToCs xs cs) (hp : PureX E.P f cs r) : StepV E m ev (.call { callee := .value callee, args := args, argTypes := ats }) (.c r) []
  | callB {callee : Operand} {args : Array Operand} {ats : Array TypeId} {f : FuncId} {us : List Value} {cs rs : List CV} {R : List Nat} (hc : ev callee = .c (.v (.func (.func f) #[] ⟨us⟩)))
      (hx : ToB m (args.toList.map ev ++ us.map fun u => .c (.v u)) cs R) (hp : Pure E.P f cs rs) (hs : rs.all CV.scalar = true) : StepV E m ev (.call { callee := .value callee, args := args, argTypes := ats }) (resAV rs) R
end Go.AM
