/- The abstract machine, part 2: abstract states, and what it means that a frame and a world stand as one says. It speaks of whatever program. -/
import Derived.Test.YtafieicinmcngaaM1
namespace Go.AM
open Go Go.RowKit
set_option linter.unusedVariables false

inductive AV where
  | any
  | c (x : CV)
  | loc (i off : Nat)
  | ms (i n : Nat)
  | el (i n sz k off : Nat)
  | agg (xs : List AV)
  | tup (xs : List AV)
  deriving Inhabited

inductive Ob where
  | box (cells : List AV)
  | arr (sz e : Nat) (xs : List CV)
  deriving Inhabited

structure AS where
  t : Nat → AV
  m : Nat → Option Ob

inductive NoId (d : Nat) : AV → Prop where
  | any : NoId d .any
  | c (x : CV) : NoId d (.c x)
  | loc {i off : Nat} (h : i ≠ d) : NoId d (.loc i off)
  | ms {i n : Nat} (h : i ≠ d) : NoId d (.ms i n)
  | el {i n sz k off : Nat} (h : i ≠ d) : NoId d (.el i n sz k off)
  | agg {xs : List AV} (h : ∀ (j : Nat) (y : AV), xs[j]? = some y → NoId d y) : NoId d (.agg xs)
  | tup {xs : List AV} (h : ∀ (j : Nat) (y : AV), xs[j]? = some y → NoId d y) : NoId d (.tup xs)

def Ob.noId (d : Nat) : Ob → Prop
  | .box cells => ∀ (j : Nat) (y : AV), cells[j]? = some y → NoId d y
  | .arr _ _ _ => True

inductive RepA (w : World) (L : Nat → Prop) (ρ : Nat → Value) (m : Nat → Option Ob) : Value → AV → Prop where
  | any (v : Value) : RepA w L ρ m v .any
  | c {v : Value} {x : CV} (h : Rep w L v x) : RepA w L ρ m v (.c x)
  | loc {v : Value} {i off : Nat} (h : ∀ cells, m i = some (.box cells) → ∃ b, ρ i = .pointer (some ⟨b, 0, none⟩) ∧ v = .pointer (some ⟨b, off, none⟩)) : RepA w L ρ m v (.loc i off)
  | ms {v : Value} {i n : Nat} (h : ∀ sz e xs, m i = some (.arr sz e xs) → n ≤ xs.length ∧ (xs.length = n → v = ρ i)) : RepA w L ρ m v (.ms i n)
  | el {v : Value} {i n sz k off : Nat} (h : ∀ sz' e xs, m i = some (.arr sz' e xs) → n ≤ xs.length ∧ (xs.length = n → sz' = sz ∧ ∃ b cap, ρ i = .slice (some ⟨b, 0, none⟩) n cap ∧ v = .pointer (some ⟨b, k * sz + off, none⟩))) :
      RepA w L ρ m v (.el i n sz k off)
  | agg {vs : List Value} {xs : List AV} (hn : vs.length = xs.length) (hx : ∀ (j : Nat) (y : AV), xs[j]? = some y → RepA w L ρ m (vs.getD j undef) y) : RepA w L ρ m (.agg ⟨vs⟩) (.agg xs)
  | tup {vs : List Value} {xs : List AV} (hn : vs.length = xs.length) (hx : ∀ (j : Nat) (y : AV), xs[j]? = some y → RepA w L ρ m (vs.getD j undef) y) : RepA w L ρ m (.tuple ⟨vs⟩) (.tup xs)

/-- How an object may turn so that what leads to it still reads as it did: its place is the same, or what led to it is out of date. -/
def Turns (m m' : Nat → Option Ob) (ρ ρ' : Nat → Value) (i : Nat) : Prop :=
  m' i = none ∨
  (∃ sz e xs e' xs', m i = some (.arr sz e xs) ∧ m' i = some (.arr sz e' xs') ∧ xs.length < xs'.length) ∨
  (ρ' i = ρ i ∧ (m' i = m i ∨ (∃ cs cs', m i = some (.box cs) ∧ m' i = some (.box cs')) ∨ ∃ sz e xs e' xs', m i = some (.arr sz e xs) ∧ m' i = some (.arr sz e' xs') ∧ xs.length = xs'.length))

theorem RepA.keep {w w' : World} {L L' : Nat → Prop} {ρ ρ' : Nat → Value} {m m' : Nat → Option Ob} {v : Value} {x : AV} (h : RepA w L ρ m v x)
    (hL : ∀ b, ¬ L b → b < w.heap.size → ¬ L' b) (hw : ∀ b, ¬ L b → b < w.heap.size → w'.heap[b]? = w.heap[b]?)
    (hi : ∀ i, NoId i x ∨ Turns m m' ρ ρ' i) : RepA w' L' ρ' m' v x := by
  induction h with
  | any v => exact .any v
  | c h => exact .c (h.keep hL hw)
  | loc h =>
    rename_i v i off
    refine .loc fun cells hc => ?_
    rcases hi i with hn | hn | ⟨sz, e, xs, e', xs', h1, h2, _⟩ | ⟨hρ, h1 | ⟨cs, cs', h1, h2⟩ | ⟨sz, e, xs, e', xs', h1, h2, _⟩⟩
    · cases hn; contradiction
    · rw [hn] at hc; cases hc
    · rw [h2] at hc; cases hc
    · rw [h1] at hc; rw [hρ]; exact h cells hc
    · rw [hρ]; exact h cs h1
    · rw [h2] at hc; cases hc
  | ms h =>
    rename_i v i n
    refine .ms fun sz e xs hc => ?_
    rcases hi i with hn | hn | ⟨sz1, e1, xs1, e', xs', h1, h2, hlt⟩ | ⟨hρ, h1 | ⟨cs, cs', h1, h2⟩ | ⟨sz1, e1, xs1, e', xs', h1, h2, hl⟩⟩
    · cases hn; contradiction
    · rw [hn] at hc; cases hc
    · rw [h2] at hc; cases hc
      have := (h _ _ _ h1).1
      exact ⟨by omega, fun hh => by omega⟩
    · rw [h1] at hc; rw [hρ]; exact h _ _ _ hc
    · rw [h2] at hc; cases hc
    · rw [h2] at hc; cases hc
      rw [hρ, ← hl]; exact h _ _ _ h1
  | el h =>
    rename_i v i n sz k off
    refine .el fun sz' e xs hc => ?_
    rcases hi i with hn | hn | ⟨sz1, e1, xs1, e', xs', h1, h2, hlt⟩ | ⟨hρ, h1 | ⟨cs, cs', h1, h2⟩ | ⟨sz1, e1, xs1, e', xs', h1, h2, hl⟩⟩
    · cases hn; contradiction
    · rw [hn] at hc; cases hc
    · rw [h2] at hc; cases hc
      have := (h _ _ _ h1).1
      exact ⟨by omega, fun hh => by omega⟩
    · rw [h1] at hc; rw [hρ]; exact h _ _ _ hc
    · rw [h2] at hc; cases hc
    · rw [h2] at hc; cases hc
      rw [hρ, ← hl]; exact h _ _ _ h1
  | agg hn hx ih =>
    refine .agg hn fun j y hy => ih j y hy fun i => ?_
    rcases hi i with h | h
    · cases h with | agg h => exact .inl (h j y hy)
    · exact .inr h
  | tup hn hx ih =>
    refine .tup hn fun j y hy => ih j y hy fun i => ?_
    rcases hi i with h | h
    · cases h with | tup h => exact .inl (h j y hy)
    · exact .inr h

def Value.blk : Value → Option Nat
  | .pointer (some a) => some a.block
  | .slice (some a) _ _ => some a.block
  | _ => none

/-- The object stands in the world as it says: u is the pointer to it, or the slice. -/
def ObRel (w : World) (L : Nat → Prop) (ρ : Nat → Value) (m : Nat → Option Ob) (u : Value) : Ob → Prop
  | .box cells => ∃ b cs ty, u = .pointer (some ⟨b, 0, none⟩) ∧ w.heap[b]? = some (.cells cs ty (0, 0)) ∧ cs.size = cells.length ∧
      ∀ j y, cells[j]? = some y → RepA w L ρ m (cs.getD j undef) y
  | .arr sz e xs => 0 < sz ∧ ∃ vs, w.ownsRow 0 e sz u xs.length vs ∧
      ∀ i x, xs[i]? = some x → x.cells.length = sz ∧ ∀ j y, x.cells[j]? = some y → Rep w L (vs.getD (i * sz + j) undef) y

/-- What has become of the world since a call began: nothing old has turned but (maybe) what T names. -/
structure Keep (T : Nat → Prop) (w w' : World) : Prop where
  os : w'.os = w.os
  tape : w'.tape = w.tape
  output : w'.output = w.output
  size : w.heap.size ≤ w'.heap.size
  block : ∀ b, b < w.heap.size → ¬ T b → w'.heap[b]? = w.heap[b]?
theorem Keep.refl (T : Nat → Prop) (w : World) : Keep T w w := ⟨rfl, rfl, rfl, Nat.le_refl _, fun _ _ _ => rfl⟩
theorem Keep.trans {T T' : Nat → Prop} {a b c : World} (h : Keep T a b) (k : Keep T' b c) (hT : ∀ x, x < a.heap.size → T' x → T x) : Keep T a c :=
  ⟨k.os.trans h.os, k.tape.trans h.tape, k.output.trans h.output, Nat.le_trans h.size k.size, fun x hx hn =>
    (k.block x (Nat.lt_of_lt_of_le hx h.size) (fun ht => hn (hT x hx ht))).trans (h.block x hx hn)⟩
theorem Keep.alloc (T : Nat → Prop) (w : World) (o : Obj) : Keep T w (w.alloc o) :=
  ⟨rfl, rfl, rfl, by simp, fun b hb _ => Below.heap_alloc w o b hb⟩
theorem Keep.drew (T : Nat → Prop) (w : World) : Keep T w w.drew := ⟨rfl, rfl, rfl, Nat.le_refl _, fun _ _ _ => rfl⟩
theorem Keep.setCell {T : Nat → Prop} (w : World) (a : Addr) (u : Value) (h : T a.block) : Keep T w (w.setCell a u) :=
  ⟨rfl, rfl, rfl, by simp, fun b hb hn => Below.heap_setCell w a u b (fun e => hn (e ▸ h))⟩
theorem Keep.below {w w' : World} (h : Keep (fun _ => False) w w') : Below w.heap.size w w' := ⟨h.os, h.tape, h.output, h.size, fun k hk => h.block k hk id⟩
theorem Keep.of_below {w w' : World} (h : Below w.heap.size w w') : Keep (fun _ => False) w w' := ⟨h.os, h.tape, h.output, h.size, fun k hk _ => h.block k hk⟩
theorem Keep.mono {T T' : Nat → Prop} {w w' : World} (h : Keep T w w') (hT : ∀ b, b < w.heap.size → T b → T' b) : Keep T' w w' :=
  ⟨h.os, h.tape, h.output, h.size, fun b hb hn => h.block b hb fun ht => hn (hT b hb ht)⟩

/-- What a function's run is told against (r0: where the objects that it was handed stand): the world in which it began, the old blocks that it may turn (T0), the old blocks that what it hands back must not lead to (L0), its frame's size. -/
structure Ctx where
  w0 : World
  T0 : Nat → Prop
  L0 : Nat → Prop
  n : Nat
  r0 : Nat → Value
  hn : n ≤ 1000000
  hT : ∀ b, T0 b → ¬ L0 b

def live (m : Nat → Option Ob) (ρ : Nat → Value) (b : Nat) : Prop := ∃ i o, m i = some o ∧ Value.blk (ρ i) = some b

def LL (C : Ctx) (m : Nat → Option Ob) (ρ : Nat → Value) (b : Nat) : Prop := C.L0 b ∨ live m ρ b

structure STr (C : Ctx) (s : AS) (ρ : Nat → Value) (a : Act) (w : World) : Prop where
  keep : Keep C.T0 C.w0 w
  old : ∀ b, C.L0 b → b < C.w0.heap.size
  size : a.tmps.size = C.n
  defers : a.defers = []
  obj : ∀ i o, s.m i = some o → ObRel w (LL C s.m ρ) ρ s.m (ρ i) o
  own : ∀ i o b, s.m i = some o → Value.blk (ρ i) = some b → (C.T0 b ∨ C.w0.heap.size ≤ b) ∧ b < w.heap.size
  inj : ∀ i j oi oj b, s.m i = some oi → s.m j = some oj → Value.blk (ρ i) = some b → Value.blk (ρ j) = some b → i = j
  tmp : ∀ j, RepA w (LL C s.m ρ) ρ s.m (a.tmps.getD j undef) (s.t j)
  fix : ∀ i, 1000000 ≤ i → ρ i = C.r0 i

def ST (C : Ctx) (s : AS) (a : Act) (w : World) : Prop := ∃ ρ, STr C s ρ a w

end Go.AM
