/- The abstract machine. It speaks of whatever program. -/
import Derived.Orders
import Derived.Below
import Derived.Laws.Cells
import Derived.Laws.CopyRow
import Derived.Laws.IdiomCopy
import Derived.Laws.Entries
import Derived.Maps.AppendAt
import Derived.Laws.Cover2
import Derived.Laws.BytesArg
import Derived.Laws.Tables
import Derived.Laws.Strings
import Derived.Laws.MakeOwn

/- The abstract machine, part 1: abstract values and what it means that a value in a world reads as one. It speaks of whatever program. -/
namespace Go.AM
open Go Go.RowKit
set_option linter.unusedVariables false
set_option linter.unusedSimpArgs false

/-- Content: what a value reads as, to the bottom. -/
inductive CV where
  | v (x : Value)
  | fl (b : Nat)
  | sl (sz : Nat) (xs : List CV)
  | ad (cs : List CV)
  | agg (cs : List CV)
  | fn (f : FuncId) (cs : List CV)
  deriving Inhabited

def CV.cells : CV → List CV
  | .agg cs => cs
  | x => [x]

/-- A float up to a NaN's bits. -/
def fnan (b : Nat) : Prop := FloatKind.f64.format.order b b = none
def flRel (b c : Nat) : Prop := b = c ∨ (fnan b ∧ fnan c)
theorem flRel.refl (b : Nat) : flRel b b := .inl rfl

inductive Rep (w : World) (L : Nat → Prop) : Value → CV → Prop where
  | v (x : Value) : Rep w L x (.v x)
  | fl {b c : Nat} (h : flRel b c) : Rep w L (.float .f64 b) (.fl c)
  | sl {sz : Nat} {xs : List CV} {cap n : Nat} {a : Option Addr} (g : Nat → Nat → Value) (hn : n = xs.length) (hcap : n ≤ cap) (hmax : cap ≤ maxLen) (hsz : 0 < sz)
      (ha : 0 < n → ∃ b o, a = some ⟨b, o, none⟩ ∧ ¬ L b ∧ ∀ i, i < n → ∀ j, j < sz → w.cell? ⟨b, o + (i * sz + j), none⟩ = some (g i j))
      (hlen : ∀ (i : Nat) (x : CV), xs[i]? = some x → x.cells.length = sz)
      (hx : ∀ (i : Nat) (x : CV), xs[i]? = some x → ∀ (j : Nat) (y : CV), x.cells[j]? = some y → Rep w L (g i j) y) :
      Rep w L (.slice a n cap) (.sl sz xs)
  | ad {b o : Nat} {cs : List CV} (g : Nat → Value) (hb : ¬ L b) (h0 : 0 < cs.length) (ha : ∀ j, j < cs.length → w.cell? ⟨b, o + j, none⟩ = some (g j))
      (hx : ∀ (j : Nat) (y : CV), cs[j]? = some y → Rep w L (g j) y) : Rep w L (.pointer (some ⟨b, o, none⟩)) (.ad cs)
  | agg {vs : List Value} {cs : List CV} (hn : vs.length = cs.length) (hx : ∀ (j : Nat) (y : CV), cs[j]? = some y → Rep w L (vs.getD j undef) y) : Rep w L (.agg ⟨vs⟩) (.agg cs)
  | fn {f : FuncId} {vs : List Value} {cs : List CV} (hn : vs.length = cs.length) (hx : ∀ (j : Nat) (y : CV), cs[j]? = some y → Rep w L (vs.getD j undef) y) : Rep w L (.func (.func f) #[] ⟨vs⟩) (.fn f cs)

/-- What is outside L reads as it did: so does all whose cells lie outside. -/
theorem Rep.keep {w w' : World} {L L' : Nat → Prop} {v : Value} {x : CV} (h : Rep w L v x) (hL : ∀ b, ¬ L b → b < w.heap.size → ¬ L' b)
    (hw : ∀ b, ¬ L b → b < w.heap.size → w'.heap[b]? = w.heap[b]?) : Rep w' L' v x := by
  have hc : ∀ b o u, ¬ L b → w.cell? ⟨b, o, none⟩ = some u → ¬ L' b ∧ w'.cell? ⟨b, o, none⟩ = some u := by
    intro b o u hb hu
    have hlt := World.block_lt_of_cell? w _ hu
    exact ⟨hL b hb hlt, by rw [World.cell?_of_block (w := w) (hw b hb hlt)]; exact hu⟩
  induction h with
  | v x => exact .v x
  | fl h => exact .fl h
  | sl g hn hcap hmax hsz ha hlen hx ih =>
    rename_i sz xs cap n a
    refine .sl g hn hcap hmax hsz ?_ hlen ih
    intro h0
    obtain ⟨b, o, rfl, hb, hcell⟩ := ha h0
    exact ⟨b, o, rfl, (hc b _ _ hb (hcell 0 h0 0 hsz)).1, fun i hi j hj => (hc b _ _ hb (hcell i hi j hj)).2⟩
  | ad g hb h0 ha hx ih =>
    exact .ad g (hc _ _ _ hb (ha 0 h0)).1 h0 (fun j hj => (hc _ _ _ hb (ha j hj)).2) ih
  | agg hn hx ih => exact .agg hn ih
  | fn hn hx ih => exact .fn hn ih
end Go.AM

/- The abstract machine, part 2: abstract states, and what it means that a frame and a world stand as one says. It speaks of whatever program. -/
namespace Go.AM
open Go Go.RowKit
set_option linter.unusedVariables false
set_option linter.unusedSimpArgs false

inductive AV where
  | any
  | c (x : CV)
  | loc (i off : Nat)
  | ms (i n : Nat)
  | el (i n sz k off : Nat)
  | mv (i n l h : Nat) (c : Option Nat)
  | agg (xs : List AV)
  | tup (xs : List AV)
  deriving Inhabited

inductive Ob where
  | box (cells : List AV)
  | arr (sz e : Nat) (xs : List CV)
  deriving Inhabited

structure AS where
  t : Nat → AV
  m : Nat → Option Ob

inductive NoId (d : Nat) : AV → Prop where
  | any : NoId d .any
  | c (x : CV) : NoId d (.c x)
  | loc {i off : Nat} (h : i ≠ d) : NoId d (.loc i off)
  | ms {i n : Nat} (h : i ≠ d) : NoId d (.ms i n)
  | el {i n sz k off : Nat} (h : i ≠ d) : NoId d (.el i n sz k off)
  | mv {i n l h : Nat} {c : Option Nat} (hd : i ≠ d) : NoId d (.mv i n l h c)
  | agg {xs : List AV} (h : ∀ (j : Nat) (y : AV), xs[j]? = some y → NoId d y) : NoId d (.agg xs)
  | tup {xs : List AV} (h : ∀ (j : Nat) (y : AV), xs[j]? = some y → NoId d y) : NoId d (.tup xs)

def Ob.noId (d : Nat) : Ob → Prop
  | .box cells => ∀ (j : Nat) (y : AV), cells[j]? = some y → NoId d y
  | .arr _ _ _ => True

/-- A part of a row: its elements from l to h, its room up to c (none: as far as there is room). -/
def ViewOf (sz n l h : Nat) (c : Option Nat) (u v : Value) : Prop :=
  ∃ b o cap, u = .slice (some ⟨b, o, none⟩) n cap ∧ l ≤ h ∧ h ≤ c.getD cap ∧ c.getD cap ≤ cap ∧ v = .slice (some ⟨b, if c.getD cap = l then o else o + l * sz, none⟩) (h - l) (c.getD cap - l)

inductive RepA (w : World) (L : Nat → Prop) (ρ : Nat → Value) (m : Nat → Option Ob) : Value → AV → Prop where
  | any (v : Value) : RepA w L ρ m v .any
  | c {v : Value} {x : CV} (h : Rep w L v x) : RepA w L ρ m v (.c x)
  | loc {v : Value} {i off : Nat} (h : ∀ cells, m i = some (.box cells) → ∃ b, ρ i = .pointer (some ⟨b, 0, none⟩) ∧ v = .pointer (some ⟨b, off, none⟩)) : RepA w L ρ m v (.loc i off)
  | ms {v : Value} {i n : Nat} (h : ∀ sz e xs, m i = some (.arr sz e xs) → n ≤ xs.length ∧ (xs.length = n → v = ρ i)) : RepA w L ρ m v (.ms i n)
  | el {v : Value} {i n sz k off : Nat} (h : ∀ sz' e xs, m i = some (.arr sz' e xs) → n ≤ xs.length ∧ (xs.length = n → sz' = sz ∧ ∃ b o cap, ρ i = .slice (some ⟨b, o, none⟩) n cap ∧ v = .pointer (some ⟨b, o + (k * sz + off), none⟩))) :
      RepA w L ρ m v (.el i n sz k off)
  | mv {v : Value} {i n l h : Nat} {c : Option Nat} (hv : ∀ sz e xs, m i = some (.arr sz e xs) → n ≤ xs.length ∧ (xs.length = n → ViewOf sz n l h c (ρ i) v)) : RepA w L ρ m v (.mv i n l h c)
  | agg {vs : List Value} {xs : List AV} (hn : vs.length = xs.length) (hx : ∀ (j : Nat) (y : AV), xs[j]? = some y → RepA w L ρ m (vs.getD j undef) y) : RepA w L ρ m (.agg ⟨vs⟩) (.agg xs)
  | tup {vs : List Value} {xs : List AV} (hn : vs.length = xs.length) (hx : ∀ (j : Nat) (y : AV), xs[j]? = some y → RepA w L ρ m (vs.getD j undef) y) : RepA w L ρ m (.tuple ⟨vs⟩) (.tup xs)

/-- How an object may turn so that what leads to it still reads as it did: its place is the same, or what led to it is out of date. -/
def Turns (m m' : Nat → Option Ob) (ρ ρ' : Nat → Value) (i : Nat) : Prop :=
  m' i = none ∨
  (∃ sz e xs e' xs', m i = some (.arr sz e xs) ∧ m' i = some (.arr sz e' xs') ∧ xs.length < xs'.length) ∨
  (ρ' i = ρ i ∧ (m' i = m i ∨ (∃ cs cs', m i = some (.box cs) ∧ m' i = some (.box cs')) ∨ ∃ sz e xs e' xs', m i = some (.arr sz e xs) ∧ m' i = some (.arr sz e' xs') ∧ xs.length = xs'.length))

theorem RepA.keep {w w' : World} {L L' : Nat → Prop} {ρ ρ' : Nat → Value} {m m' : Nat → Option Ob} {v : Value} {x : AV} (h : RepA w L ρ m v x)
    (hL : ∀ b, ¬ L b → b < w.heap.size → ¬ L' b) (hw : ∀ b, ¬ L b → b < w.heap.size → w'.heap[b]? = w.heap[b]?)
    (hi : ∀ i, NoId i x ∨ Turns m m' ρ ρ' i) : RepA w' L' ρ' m' v x := by
  induction h with
  | any v => exact .any v
  | c h => exact .c (h.keep hL hw)
  | loc h =>
    rename_i v i off
    refine .loc fun cells hc => ?_
    rcases hi i with hn | hn | ⟨sz, e, xs, e', xs', h1, h2, _⟩ | ⟨hρ, h1 | ⟨cs, cs', h1, h2⟩ | ⟨sz, e, xs, e', xs', h1, h2, _⟩⟩
    · cases hn; contradiction
    · rw [hn] at hc; cases hc
    · rw [h2] at hc; cases hc
    · rw [h1] at hc; rw [hρ]; exact h cells hc
    · rw [hρ]; exact h cs h1
    · rw [h2] at hc; cases hc
  | ms h =>
    rename_i v i n
    refine .ms fun sz e xs hc => ?_
    rcases hi i with hn | hn | ⟨sz1, e1, xs1, e', xs', h1, h2, hlt⟩ | ⟨hρ, h1 | ⟨cs, cs', h1, h2⟩ | ⟨sz1, e1, xs1, e', xs', h1, h2, hl⟩⟩
    · cases hn; contradiction
    · rw [hn] at hc; cases hc
    · rw [h2] at hc; cases hc
      have := (h _ _ _ h1).1
      exact ⟨by omega, fun hh => by omega⟩
    · rw [h1] at hc; rw [hρ]; exact h _ _ _ hc
    · rw [h2] at hc; cases hc
    · rw [h2] at hc; cases hc
      rw [hρ, ← hl]; exact h _ _ _ h1
  | el h =>
    rename_i v i n sz k off
    refine .el fun sz' e xs hc => ?_
    rcases hi i with hn | hn | ⟨sz1, e1, xs1, e', xs', h1, h2, hlt⟩ | ⟨hρ, h1 | ⟨cs, cs', h1, h2⟩ | ⟨sz1, e1, xs1, e', xs', h1, h2, hl⟩⟩
    · cases hn; contradiction
    · rw [hn] at hc; cases hc
    · rw [h2] at hc; cases hc
      have := (h _ _ _ h1).1
      exact ⟨by omega, fun hh => by omega⟩
    · rw [h1] at hc; rw [hρ]; exact h _ _ _ hc
    · rw [h2] at hc; cases hc
    · rw [h2] at hc; cases hc
      rw [hρ, ← hl]; exact h _ _ _ h1
  | mv hv =>
    rename_i v i n l h c
    refine .mv fun sz e xs hc => ?_
    rcases hi i with hn | hn | ⟨sz1, e1, xs1, e', xs', h1, h2, hlt⟩ | ⟨hρ, h1 | ⟨cs, cs', h1, h2⟩ | ⟨sz1, e1, xs1, e', xs', h1, h2, hl⟩⟩
    · cases hn; contradiction
    · rw [hn] at hc; cases hc
    · rw [h2] at hc; cases hc
      have := (hv _ _ _ h1).1
      exact ⟨by omega, fun hh => by omega⟩
    · rw [h1] at hc; rw [hρ]; exact hv _ _ _ hc
    · rw [h2] at hc; cases hc
    · rw [h2] at hc; cases hc
      rw [hρ, ← hl]; exact hv _ _ _ h1
  | agg hn hx ih =>
    refine .agg hn fun j y hy => ih j y hy fun i => ?_
    rcases hi i with h | h
    · cases h with | agg h => exact .inl (h j y hy)
    · exact .inr h
  | tup hn hx ih =>
    refine .tup hn fun j y hy => ih j y hy fun i => ?_
    rcases hi i with h | h
    · cases h with | tup h => exact .inl (h j y hy)
    · exact .inr h

def Value.blk : Value → Option Nat
  | .pointer (some a) => some a.block
  | .slice (some a) _ _ => some a.block
  | _ => none

/-- A row of one's own, or a part of one: the slice v has n elements, of which the cells are xs; all of its block is its own. -/
def ownsV (w : World) (e : TypeId) (size : Nat) (v : Value) (n : Nat) (xs : List Value) : Prop :=
  xs.length = n * size ∧
  ((v = .slice none 0 0 ∧ n = 0) ∨
   ∃ g o cap cur, v = .slice (some ⟨g, o, none⟩) n cap ∧ w.heap[g]? = some (.cells cur e (0, 0)) ∧ n ≤ cap ∧ cap ≤ maxLen ∧ o + cap * size ≤ cur.size ∧ (cur.toList.drop o).take (n * size) = xs)
theorem ownsV_nil (w : World) (e : TypeId) (size : Nat) : ownsV w e size (.slice none 0 0) 0 [] := ⟨by simp, .inl ⟨rfl, rfl⟩⟩
theorem ownsV_of {w : World} {e : TypeId} {size : Nat} {v : Value} {n : Nat} {xs : List Value} (h : w.ownsRow 0 e size v n xs) : ownsV w e size v n xs := by
  refine ⟨h.1, ?_⟩
  rcases h.2 with h2 | ⟨g, cap, cur, hv, _, hgg, hn, hm, hs, ht⟩
  · exact .inl h2
  · exact .inr ⟨g, 0, cap, cur, hv, hgg, hn, hm, by omega, by simpa using ht⟩

/-- The object stands in the world as it says: u is the pointer to it, or the slice. -/
def ObRel (w : World) (L : Nat → Prop) (ρ : Nat → Value) (m : Nat → Option Ob) (u : Value) : Ob → Prop
  | .box cells => ∃ b cs ty, u = .pointer (some ⟨b, 0, none⟩) ∧ w.heap[b]? = some (.cells cs ty (0, 0)) ∧ cs.size = cells.length ∧
      ∀ j y, cells[j]? = some y → RepA w L ρ m (cs.getD j undef) y
  | .arr sz e xs => 0 < sz ∧ ∃ vs, ownsV w e sz u xs.length vs ∧
      ∀ i x, xs[i]? = some x → x.cells.length = sz ∧ ∀ j y, x.cells[j]? = some y → Rep w L (vs.getD (i * sz + j) undef) y

/-- What has become of the world since a call began: nothing old has turned but (maybe) what T names. -/
structure Keep (T : Nat → Prop) (w w' : World) : Prop where
  os : w'.os = w.os
  tape : w'.tape = w.tape
  output : w'.output = w.output
  size : w.heap.size ≤ w'.heap.size
  block : ∀ b, b < w.heap.size → ¬ T b → w'.heap[b]? = w.heap[b]?
theorem Keep.refl (T : Nat → Prop) (w : World) : Keep T w w := ⟨rfl, rfl, rfl, Nat.le_refl _, fun _ _ _ => rfl⟩
theorem Keep.trans {T T' : Nat → Prop} {a b c : World} (h : Keep T a b) (k : Keep T' b c) (hT : ∀ x, x < a.heap.size → T' x → T x) : Keep T a c :=
  ⟨k.os.trans h.os, k.tape.trans h.tape, k.output.trans h.output, Nat.le_trans h.size k.size, fun x hx hn =>
    (k.block x (Nat.lt_of_lt_of_le hx h.size) (fun ht => hn (hT x hx ht))).trans (h.block x hx hn)⟩
theorem Keep.alloc (T : Nat → Prop) (w : World) (o : Obj) : Keep T w (w.alloc o) :=
  ⟨rfl, rfl, rfl, by simp, fun b hb _ => Below.heap_alloc w o b hb⟩
theorem Keep.drew (T : Nat → Prop) (w : World) : Keep T w w.drew := ⟨rfl, rfl, rfl, Nat.le_refl _, fun _ _ _ => rfl⟩
theorem Keep.setCell {T : Nat → Prop} (w : World) (a : Addr) (u : Value) (h : T a.block) : Keep T w (w.setCell a u) :=
  ⟨rfl, rfl, rfl, by simp, fun b hb hn => Below.heap_setCell w a u b (fun e => hn (e ▸ h))⟩
theorem Keep.below {w w' : World} (h : Keep (fun _ => False) w w') : Below w.heap.size w w' := ⟨h.os, h.tape, h.output, h.size, fun k hk => h.block k hk id⟩
theorem Keep.of_below {w w' : World} (h : Below w.heap.size w w') : Keep (fun _ => False) w w' := ⟨h.os, h.tape, h.output, h.size, fun k hk _ => h.block k hk⟩
theorem Keep.mono {T T' : Nat → Prop} {w w' : World} (h : Keep T w w') (hT : ∀ b, b < w.heap.size → T b → T' b) : Keep T' w w' :=
  ⟨h.os, h.tape, h.output, h.size, fun b hb hn => h.block b hb fun ht => hn (hT b hb ht)⟩

/-- What a function's run is told against (r0: where the objects that it was handed stand): the world in which it began, the old blocks that it may turn (T0), the old blocks that what it hands back must not lead to (L0), its frame's size. -/
structure Ctx where
  w0 : World
  T0 : Nat → Prop
  L0 : Nat → Prop
  n : Nat
  r0 : Nat → Value
  hn : n ≤ 1000000
  hT : ∀ b, T0 b → ¬ L0 b

def live (m : Nat → Option Ob) (ρ : Nat → Value) (b : Nat) : Prop := ∃ i o, m i = some o ∧ Value.blk (ρ i) = some b

def LL (C : Ctx) (m : Nat → Option Ob) (ρ : Nat → Value) (b : Nat) : Prop := C.L0 b ∨ live m ρ b

structure STr (C : Ctx) (s : AS) (ρ : Nat → Value) (a : Act) (w : World) : Prop where
  keep : Keep C.T0 C.w0 w
  old : ∀ b, C.L0 b → b < C.w0.heap.size
  size : a.tmps.size = C.n
  defers : a.defers = []
  obj : ∀ i o, s.m i = some o → ObRel w (LL C s.m ρ) ρ s.m (ρ i) o
  own : ∀ i o b, s.m i = some o → Value.blk (ρ i) = some b → (C.T0 b ∨ C.w0.heap.size ≤ b) ∧ b < w.heap.size
  inj : ∀ i j oi oj b, s.m i = some oi → s.m j = some oj → Value.blk (ρ i) = some b → Value.blk (ρ j) = some b → i = j
  tmp : ∀ j, RepA w (LL C s.m ρ) ρ s.m (a.tmps.getD j undef) (s.t j)
  fix : ∀ i, 1000000 ≤ i → ρ i = C.r0 i

def ST (C : Ctx) (s : AS) (a : Act) (w : World) : Prop := ∃ ρ, STr C s ρ a w

end Go.AM

/- The abstract machine, part 3: how a standing state is carried over a step. It speaks of whatever program. -/
namespace Go.AM
open Go Go.RowKit
set_option linter.unusedVariables false
set_option linter.unusedSimpArgs false

theorem ObRel.keep {w w' : World} {L L' : Nat → Prop} {ρ ρ' : Nat → Value} {m m' : Nat → Option Ob} {u : Value} {o : Ob} (h : ObRel w L ρ m u o)
    (hL : ∀ b, ¬ L b → b < w.heap.size → ¬ L' b) (hw : ∀ b, ¬ L b → b < w.heap.size → w'.heap[b]? = w.heap[b]?)
    (hb : ∀ b, Value.blk u = some b → w'.heap[b]? = w.heap[b]?)
    (hi : ∀ i, o.noId i ∨ Turns m m' ρ ρ' i) : ObRel w' L' ρ' m' u o := by
  cases o with
  | box cells =>
    obtain ⟨b, cs, ty, rfl, hh, hs, hc⟩ := h
    refine ⟨b, cs, ty, rfl, by rw [hb b rfl]; exact hh, hs, fun j y hy => (hc j y hy).keep hL hw fun i => ?_⟩
    rcases hi i with h | h
    · exact .inl (h j y hy)
    · exact .inr h
  | arr sz e xs =>
    obtain ⟨h0, vs, hown, hx⟩ := h
    refine ⟨h0, vs, ⟨hown.1, ?_⟩, fun i x hix => ⟨(hx i x hix).1, fun j y hy => ((hx i x hix).2 j y hy).keep hL hw⟩⟩
    rcases hown.2 with h2 | ⟨g, o, cap, cur, hv, hgg, rest⟩
    · exact .inl h2
    · exact .inr ⟨g, o, cap, cur, hv, by rw [hb g (by rw [hv]; rfl)]; exact hgg, rest⟩

def putT (t : Nat → AV) : Option Tmp → AV → Nat → AV
  | some d, v => fun j => bif Nat.beq j d then v else t j
  | none, _ => t

def updM (m : Nat → Option Ob) (i : Nat) (o : Option Ob) : Nat → Option Ob := fun j => bif Nat.beq j i then o else m j
theorem updM_same (m : Nat → Option Ob) (i : Nat) (o : Option Ob) : updM m i o i = o := by simp [updM, Nat.beq_refl]
theorem updM_ne (m : Nat → Option Ob) {i j : Nat} (o : Option Ob) (h : j ≠ i) : updM m i o j = m j := by
  have : Nat.beq j i = false := by
    cases hb : Nat.beq j i with
    | false => rfl
    | true => exact absurd (Nat.eq_of_beq_eq_true hb) h
  simp [updM, this]
def updV (ρ : Nat → Value) (i : Nat) (u : Value) : Nat → Value := fun j => bif Nat.beq j i then u else ρ j
theorem updV_same (ρ : Nat → Value) (i : Nat) (u : Value) : updV ρ i u i = u := by simp [updV, Nat.beq_refl]
theorem updV_ne (ρ : Nat → Value) {i j : Nat} (u : Value) (h : j ≠ i) : updV ρ i u j = ρ j := by
  have : Nat.beq j i = false := by
    cases hb : Nat.beq j i with
    | false => rfl
    | true => exact absurd (Nat.eq_of_beq_eq_true hb) h
  simp [updV, this]

section
variable {C : Ctx} {s : AS} {ρ : Nat → Value} {a : Act} {w : World}

theorem getD_put (a : Act) (d : Tmp) (u : Value) (hd : d < a.tmps.size) (j : Nat) : (a.put (some d) u).tmps.getD j undef = if j = d then u else a.tmps.getD j undef := by
  simp only [Act.put, Array.getD_eq_getD_getElem?]
  by_cases hj : j = d
  · subst hj; simp [hd]
  · rw [if_neg hj, Array.getElem?_setIfInBounds_ne (Ne.symm hj)]

/-- A value is put into the frame. -/
theorem STr.put (h : STr C s ρ a w) (dst : Option Tmp) (hd : ∀ d, dst = some d → d < C.n) {u : Value} {v : AV} (hr : dst ≠ none → RepA w (LL C s.m ρ) ρ s.m u v) :
    STr C ⟨putT s.t dst v, s.m⟩ ρ (a.put dst u) w := by
  cases dst with
  | none => exact ⟨h.keep, h.old, h.size, h.defers, h.obj, h.own, h.inj, h.tmp, h.fix⟩
  | some d =>
    have hlt : d < a.tmps.size := by rw [h.size]; exact hd d rfl
    refine ⟨h.keep, h.old, by simpa [Act.put] using h.size, by simpa [Act.put] using h.defers, h.obj, h.own, h.inj, fun j => ?_, h.fix⟩
    rw [getD_put a d u hlt]
    show RepA _ _ _ _ _ (bif Nat.beq j d then v else s.t j)
    by_cases hj : j = d
    · subst hj; simp only [if_true, Nat.beq_refl, cond_true]; exact hr (by simp)
    · have hb : Nat.beq j d = false := by
        cases hb : Nat.beq j d with
        | false => rfl
        | true => exact absurd (Nat.eq_of_beq_eq_true hb) hj
      rw [if_neg hj, hb]; exact h.tmp j

theorem STr.live_lt (h : STr C s ρ a w) {b : Nat} (hb : LL C s.m ρ b) : b < w.heap.size := by
  rcases hb with hb | ⟨i, o, hi, hb⟩
  · exact Nat.lt_of_lt_of_le (h.old b hb) h.keep.size
  · exact (h.own i o b hi hb).2

/-- The general step: the memory told of turns, the frame's temporaries stay. -/
theorem STr.turn (h : STr C s ρ a w) {m' : Nat → Option Ob} {ρ' : Nat → Value} {w' : World}
    (hk : Keep (fun b => live s.m ρ b) w w')
    (hlive : ∀ b, live m' ρ' b → live s.m ρ b ∨ w.heap.size ≤ b)
    (hT : ∀ i, (∀ j, NoId i (s.t j)) ∨ Turns s.m m' ρ ρ' i)
    (hobj : (∀ b, ¬ LL C s.m ρ b → b < w.heap.size → ¬ LL C m' ρ' b) → (∀ b, ¬ LL C s.m ρ b → b < w.heap.size → w'.heap[b]? = w.heap[b]?) → ∀ i o, m' i = some o → ObRel w' (LL C m' ρ') ρ' m' (ρ' i) o)
    (hown : ∀ i o b, m' i = some o → Value.blk (ρ' i) = some b → (C.T0 b ∨ C.w0.heap.size ≤ b) ∧ b < w'.heap.size)
    (hinj : ∀ i j oi oj b, m' i = some oi → m' j = some oj → Value.blk (ρ' i) = some b → Value.blk (ρ' j) = some b → i = j)
    (hfix : ∀ i, 1000000 ≤ i → ρ' i = ρ i) :
    STr C ⟨s.t, m'⟩ ρ' a w' := by
  have hL : ∀ b, ¬ LL C s.m ρ b → b < w.heap.size → ¬ LL C m' ρ' b := by
    rintro b hn hlt (hb | hb)
    · exact hn (.inl hb)
    · rcases hlive b hb with hb | hb
      · exact hn (.inr hb)
      · omega
  have hw : ∀ b, ¬ LL C s.m ρ b → b < w.heap.size → w'.heap[b]? = w.heap[b]? := fun b hn hlt => hk.block b hlt fun hl => hn (.inr hl)
  refine ⟨h.keep.trans hk ?_, h.old, h.size, h.defers, hobj hL hw, hown, hinj, fun j => (h.tmp j).keep hL hw fun i => ?_, fun i hi => (hfix i hi).trans (h.fix i hi)⟩
  · rintro b hb ⟨i, o, hi, hbi⟩
    rcases (h.own i o b hi hbi).1 with ht | ht
    · exact ht
    · omega
  · rcases hT i with hn | ht
    · exact .inl (hn j)
    · exact .inr ht

/-- New memory that nobody is told of; draws. -/
theorem STr.world (h : STr C s ρ a w) {w' : World} (hk : Keep (fun _ => False) w w') : STr C s ρ a w' := by
  refine h.turn (m' := s.m) (ρ' := ρ) (hk.mono fun _ _ f => f.elim) (fun b hb => .inl hb) (fun i => .inr (.inr (.inr ⟨rfl, .inl rfl⟩))) ?_ (fun i o b hi hb => ?_) h.inj (fun _ _ => rfl)
  · intro hL hw i o hi
    exact (h.obj i o hi).keep hL hw (fun b hb => hk.block b (h.own i o b hi hb).2 id) fun i => .inr (.inr (.inr ⟨rfl, .inl rfl⟩))
  · have := h.own i o b hi hb
    exact ⟨this.1, Nat.lt_of_lt_of_le this.2 hk.size⟩

/-- A variable of the call's own is made: a new block. -/
theorem STr.new (h : STr C s ρ a w) (d : Nat) (hd : d < 1000000) (ty : TypeId) (cs : Array Value) (cells : List AV) (hs : cs.size = cells.length)
    (hn : ∀ j, NoId d (s.t j)) (hm : ∀ i o, s.m i = some o → o.noId d) (hc : ∀ y ∈ cells, NoId d y)
    (hr : ∀ j y, cells[j]? = some y → RepA w (LL C s.m ρ) ρ s.m (cs.getD j undef) y) :
    STr C ⟨s.t, updM s.m d (some (.box cells))⟩ (updV ρ d (.pointer (some ⟨w.heap.size, 0, none⟩))) a (w.alloc (.cells cs ty)) := by
  have hT : ∀ i, i ≠ d → Turns s.m (updM s.m d (some (.box cells))) ρ (updV ρ d (.pointer (some ⟨w.heap.size, 0, none⟩))) i :=
    fun i hi => .inr (.inr ⟨updV_ne _ _ hi, .inl (updM_ne _ _ hi)⟩)
  refine h.turn (Keep.alloc _ _ _) ?_ (fun i => ?_) ?_ ?_ ?_ (fun i hi => updV_ne _ _ (by omega))
  · rintro b ⟨i, o, hi, hb⟩
    by_cases e : i = d
    · subst e; rw [updV_same] at hb; cases hb; exact .inr (Nat.le_refl _)
    · rw [updM_ne _ _ e] at hi; rw [updV_ne _ _ e] at hb; exact .inl ⟨i, o, hi, hb⟩
  · by_cases e : i = d
    · subst e; exact .inl hn
    · exact .inr (hT i e)
  · intro hL hw i o hi
    by_cases e : i = d
    · subst e; rw [updM_same] at hi; cases hi; rw [updV_same]
      refine ⟨_, cs, ty, rfl, heap_alloc_new w _, hs, fun j y hy => (hr j y hy).keep hL hw fun k => ?_⟩
      by_cases ek : k = i
      · subst ek; exact .inl (hc y (List.mem_of_getElem? hy))
      · exact .inr (hT k ek)
    · rw [updM_ne _ _ e] at hi; rw [updV_ne _ _ e]
      refine (h.obj i o hi).keep hL hw (fun b hb => Below.heap_alloc w _ b (h.own i o b hi hb).2) fun k => ?_
      by_cases ek : k = d
      · subst ek; exact .inl (hm i o hi)
      · exact .inr (hT k ek)
  · intro i o b hi hb
    by_cases e : i = d
    · subst e; rw [updV_same] at hb; cases hb
      exact ⟨.inr h.keep.size, by simp⟩
    · rw [updM_ne _ _ e] at hi; rw [updV_ne _ _ e] at hb
      have := h.own i o b hi hb
      exact ⟨this.1, by simp; omega⟩
  · intro i j oi oj b hi hj hbi hbj
    by_cases ei : i = d
    · by_cases ej : j = d
      · rw [ei, ej]
      · subst ei; rw [updV_same] at hbi; cases hbi
        rw [updM_ne _ _ ej] at hj; rw [updV_ne _ _ ej] at hbj
        exact absurd (h.own j oj _ hj hbj).2 (by simp)
    · rw [updM_ne _ _ ei] at hi; rw [updV_ne _ _ ei] at hbi
      by_cases ej : j = d
      · subst ej; rw [updV_same] at hbj; cases hbj
        exact absurd (h.own i oi _ hi hbi).2 (by simp)
      · rw [updM_ne _ _ ej] at hj; rw [updV_ne _ _ ej] at hbj
        exact h.inj i j oi oj b hi hj hbi hbj

/-- An object's own block turns, and with it what is told of it; it stays where it is. -/
theorem STr.write (h : STr C s ρ a w) (i : Nat) (o o' : Ob) (hi : s.m i = some o) {w' : World} {b : Nat} (hb : Value.blk (ρ i) = some b) (hk : Keep (fun x => x = b) w w')
    (hlike : (∃ cs cs', o = .box cs ∧ o' = .box cs') ∨ ∃ sz e xs e' xs', o = .arr sz e xs ∧ o' = .arr sz e' xs' ∧ xs.length = xs'.length)
    (hobj : (∀ v x, RepA w (LL C s.m ρ) ρ s.m v x → RepA w' (LL C (updM s.m i (some o')) ρ) ρ (updM s.m i (some o')) v x) →
      (∀ v x, Rep w (LL C s.m ρ) v x → Rep w' (LL C (updM s.m i (some o')) ρ) v x) → ObRel w' (LL C (updM s.m i (some o')) ρ) ρ (updM s.m i (some o')) (ρ i) o') :
    STr C ⟨s.t, updM s.m i (some o')⟩ ρ a w' := by
  have hT : ∀ k, Turns s.m (updM s.m i (some o')) ρ ρ k := by
    intro k
    by_cases e : k = i
    · subst e
      refine .inr (.inr ⟨rfl, ?_⟩)
      rcases hlike with ⟨cs, cs', h1, h2⟩ | ⟨sz, e, xs, e', xs', h1, h2, hl⟩
      · exact .inr (.inl ⟨cs, cs', by rw [hi, h1], by rw [updM_same, h2]⟩)
      · exact .inr (.inr ⟨sz, e, xs, e', xs', by rw [hi, h1], by rw [updM_same, h2], hl⟩)
    · exact .inr (.inr ⟨rfl, .inl (updM_ne _ _ e)⟩)
  have hkl : Keep (fun b => live s.m ρ b) w w' := hk.mono fun x _ hx => by subst hx; exact ⟨i, o, hi, hb⟩
  refine h.turn hkl ?_ (fun k => .inr (hT k)) ?_ ?_ ?_ (fun _ _ => rfl)
  · rintro x ⟨k, ok, hk', hbk⟩
    by_cases e : k = i
    · subst e; exact .inl ⟨k, o, hi, hbk⟩
    · rw [updM_ne _ _ e] at hk'; exact .inl ⟨k, ok, hk', hbk⟩
  · intro hL hw k ok hk'
    by_cases e : k = i
    · subst e; rw [updM_same] at hk'; cases hk'
      exact hobj (fun v x hx => hx.keep hL hw fun q => .inr (hT q)) (fun v x hx => hx.keep hL hw)
    · rw [updM_ne _ _ e] at hk'
      refine (h.obj k ok hk').keep hL hw (fun x hx => hk.block x (h.own k ok x hk' hx).2 fun ex => e (h.inj k i ok o x hk' hi hx (by rw [ex]; exact hb))) fun q => .inr (hT q)
  · intro k ok x hk' hx
    by_cases e : k = i
    · subst e
      have := h.own k o x hi hx
      exact ⟨this.1, Nat.lt_of_lt_of_le this.2 hk.size⟩
    · rw [updM_ne _ _ e] at hk'
      have := h.own k ok x hk' hx
      exact ⟨this.1, Nat.lt_of_lt_of_le this.2 hk.size⟩
  · intro k l ok ol x hk' hl hx hx'
    have f : ∀ q oq, updM s.m i (some o') q = some oq → ∃ oq', s.m q = some oq' := by
      intro q oq hq
      by_cases e : q = i
      · subst e; exact ⟨o, hi⟩
      · rw [updM_ne _ _ e] at hq; exact ⟨oq, hq⟩
    obtain ⟨ok', hk''⟩ := f k ok hk'
    obtain ⟨ol', hl''⟩ := f l ol hl
    exact h.inj k l ok' ol' x hk'' hl'' hx hx'
end
end Go.AM

/- The abstract machine, part 4: floats up to a NaN's bits; slices of the call's own; reading objects. It speaks of whatever program. -/
namespace Go.AM
open Go Go.RowKit
set_option linter.unusedVariables false
set_option linter.unusedSimpArgs false

/-! floats -/
theorem order_nan_left {d e : Ieee.Datum} (h : d.order d = none) : d.order e = none := by
  cases d with
  | nan n f => rfl
  | infinity s => simp [Ieee.Datum.order] at h
  | number s m i => simp [Ieee.Datum.order] at h
theorem order_nan_right {d e : Ieee.Datum} (h : d.order d = none) : e.order d = none := by
  cases d with
  | nan n f => cases e <;> rfl
  | infinity s => simp [Ieee.Datum.order] at h
  | number s m i => simp [Ieee.Datum.order] at h
theorem sum_nan_left {d e : Ieee.Datum} (h : d.order d = none) : d.sum e = none := by
  cases d with
  | nan n f => rfl
  | infinity s => simp [Ieee.Datum.order] at h
  | number s m i => simp [Ieee.Datum.order] at h
theorem sum_nan_right {d e : Ieee.Datum} (h : d.order d = none) : e.sum d = none := by
  cases d with
  | nan n f => cases e <;> rfl
  | infinity s => simp [Ieee.Datum.order] at h
  | number s m i => simp [Ieee.Datum.order] at h

theorem flRel.order {b c b' c' : Nat} (h : flRel b c) (h' : flRel b' c') : FloatKind.f64.format.order b b' = FloatKind.f64.format.order c c' := by
  rcases h with rfl | ⟨h1, h2⟩
  · rcases h' with rfl | ⟨h1', h2'⟩
    · rfl
    · unfold fnan at h1' h2'; unfold Ieee.Format.order at *
      rw [order_nan_right h1', order_nan_right h2']
  · unfold fnan at h1 h2; unfold Ieee.Format.order at *
    rw [order_nan_left h1, order_nan_left h2]

def cnan : Nat := 0x7ff8000000000001
def addF (b c : Nat) : Nat := match FloatKind.f64.format.add b c with | some r => r | none => cnan

theorem read_nan (r : Nat) (neg : Bool) (h1 : 0x7ff0000000000000 < r) (h2 : r < 2 ^ 63) : FloatKind.f64.format.read ((if neg then 2 ^ 63 else 0) + r) = .nan neg (r - 0x7ff0000000000000) := by
  have hs : (FloatKind.f64.format).signWeight = 2 ^ 63 := rfl
  have hb : (FloatKind.f64.format).binade = 2 ^ 52 := rfl
  have hi : (FloatKind.f64.format).infRung = 0x7ff0000000000000 := rfl
  unfold Ieee.Format.read
  simp only [hs, hb, hi]
  have hm : ((if neg = true then 2 ^ 63 else 0) + r) % 2 ^ 63 = r := by cases neg <;> simp <;> omega
  have hd : (((if neg = true then 2 ^ 63 else 0) + r) / 2 ^ 63 % 2 == 1) = neg := by
    cases neg
    · have : r / 2 ^ 63 = 0 := by omega
      simp [this]
    · have : (2 ^ 63 + r) / 2 ^ 63 = 1 := by omega
      simp [this]
  rw [hm, hd, if_neg (by omega), if_neg (by omega), if_neg (by omega)]
theorem fnan_of_read {r : Nat} {n : Bool} {f : Nat} (h : FloatKind.f64.format.read r = .nan n f) : fnan r := by
  unfold fnan Ieee.Format.order; rw [h]; rfl
theorem fnan_cnan : fnan cnan := by
  refine fnan_of_read (n := false) (f := cnan - 0x7ff0000000000000) ?_
  have := read_nan cnan false (by unfold cnan; omega) (by unfold cnan; omega)
  simpa using this
theorem fnan_cut (x y t : Nat) : fnan ((Question.nanBits .f64 x y).cut t) := by
  unfold Question.cut
  have h2 : (t / 2) % (2 ^ 52 - 1) < 2 ^ 52 - 1 := Nat.mod_lt _ (by decide)
  rcases Nat.mod_two_eq_zero_or_one t with h | h
  · have hr := read_nan (0x7ff0000000000000 + 1 + (t / 2) % (2 ^ 52 - 1)) false (by omega) (by omega)
    have e : (t % 2) * 2 ^ 63 + 0x7ff0000000000000 + 1 + (t / 2) % (2 ^ 52 - 1) = (if false = true then 2 ^ 63 else 0) + (0x7ff0000000000000 + 1 + (t / 2) % (2 ^ 52 - 1)) := by
      rw [h]; simp
    show fnan ((t % 2) * 2 ^ 63 + 0x7ff0000000000000 + 1 + (t / 2) % (2 ^ 52 - 1))
    rw [e]; exact fnan_of_read hr
  · have hr := read_nan (0x7ff0000000000000 + 1 + (t / 2) % (2 ^ 52 - 1)) true (by omega) (by omega)
    have e : (t % 2) * 2 ^ 63 + 0x7ff0000000000000 + 1 + (t / 2) % (2 ^ 52 - 1) = (if true = true then 2 ^ 63 else 0) + (0x7ff0000000000000 + 1 + (t / 2) % (2 ^ 52 - 1)) := by
      rw [h, if_pos rfl]; omega
    show fnan ((t % 2) * 2 ^ 63 + 0x7ff0000000000000 + 1 + (t / 2) % (2 ^ 52 - 1))
    rw [e]; exact fnan_of_read hr

theorem flRel.add_run (P : Program) {t : TypeId} {b c b' c' : Nat} (h : flRel b c) (h' : flRel b' c') (w : World) :
    ∃ r w', (binOp .add t (.float .f64 b) (.float .f64 b')).run P w = .ok (.float .f64 r) w' ∧ flRel r (addF c c') ∧ (w' = w ∨ w' = w.drew) := by
  have hb : binOp .add t (.float .f64 b) (.float .f64 b') = Op.floatArith .add .f64 b b' := by simp [binOp]
  rw [hb]
  have key : FloatKind.f64.format.add b b' = FloatKind.f64.format.add c c' ∨ (FloatKind.f64.format.add b b' = none ∧ FloatKind.f64.format.add c c' = none) := by
    rcases h with rfl | ⟨h1, h2⟩
    · rcases h' with rfl | ⟨h1', h2'⟩
      · exact .inl rfl
      · unfold fnan at h1' h2'; unfold Ieee.Format.order at h1' h2'
        exact .inr ⟨by unfold Ieee.Format.add; rw [sum_nan_right h1']; rfl, by unfold Ieee.Format.add; rw [sum_nan_right h2']; rfl⟩
    · unfold fnan at h1 h2; unfold Ieee.Format.order at h1 h2
      exact .inr ⟨by unfold Ieee.Format.add; rw [sum_nan_left h1]; rfl, by unfold Ieee.Format.add; rw [sum_nan_left h2]; rfl⟩
  have key2 : FloatKind.f64.format.add b b' = FloatKind.f64.format.add c c' := by
    rcases key with h | ⟨h, h'⟩
    · exact h
    · rw [h, h']
  unfold addF
  rw [← key2]
  cases hr : FloatKind.f64.format.add b b' with
  | some r =>
    refine ⟨r, w, ?_, flRel.refl _, .inl rfl⟩
    simp [Op.floatArith, hr]
  | none =>
    refine ⟨_, w.drew, ?_, .inr ⟨fnan_cut b b' (w.tape w.drawn (.nanBits .f64 b b')), fnan_cnan⟩, .inr rfl⟩
    simp [Op.floatArith, hr, run_choose, Question.forced]
end Go.AM

/- The abstract machine, part 5: growing a slice of the call's own; what objects' cells hold. It speaks of whatever program. -/
namespace Go.AM
open Go Go.RowKit
set_option linter.unusedVariables false
set_option linter.unusedSimpArgs false

section
variable {C : Ctx} {s : AS} {ρ : Nat → Value} {a : Act} {w : World}

theorem blk_own {u : Value} {n : Nat} {w : World} {e sz : Nat} {vs : List Value} (h : ownsV w e sz u n vs) : Value.blk u = u.ownBlock := by
  rcases h.2 with ⟨rfl, _⟩ | ⟨g, o, cap, cur, rfl, _⟩ <;> rfl
theorem ownsV_lt {u : Value} {n : Nat} {w : World} {e sz : Nat} {vs : List Value} (h : ownsV w e sz u n vs) : ∀ k, u.ownBlock = some k → 0 ≤ k ∧ k < w.heap.size := by
  intro k hk
  rcases h.2 with ⟨rfl, _⟩ | ⟨g, o, cap, cur, rfl, hg, _⟩
  · simp [Value.ownBlock] at hk
  · simp [Value.ownBlock] at hk
    subst hk
    exact ⟨Nat.zero_le _, (Array.getElem?_eq_some_iff.1 hg).1⟩

/-- A slice of the call's own is made, or has grown: what led to it (src) is forgotten. -/
theorem STr.grow (h : STr C s ρ a w) (src : Option Nat) (d sz e : Nat) (hd : d < 1000000) (xs' : List CV) (u v' : Value) (vs' : List Value) {w' : World} (h0 : 0 < sz)
    (hsrc : match src with
      | some i => ∃ xs, s.m i = some (.arr sz e xs) ∧ u = ρ i ∧ (i = d → xs.length < xs'.length)
      | none => u = .slice none 0 0)
    (hfresh : src ≠ some d → (∀ j, NoId d (s.t j)) ∧ ∀ i o, s.m i = some o → o.noId d)
    (hown' : ownsV w' e sz v' xs'.length vs') (hg : w.grownBy w' u.ownBlock) (hat : v'.ownBlock = u.ownBlock ∨ v'.ownBlock = none ∨ v'.ownBlock = some w.heap.size)
    (hx : ∀ L', (∀ b, ¬ LL C s.m ρ b → b < w.heap.size → ¬ L' b) → ∀ i x, xs'[i]? = some x → x.cells.length = sz ∧ ∀ j y, x.cells[j]? = some y → Rep w' L' (vs'.getD (i * sz + j) undef) y) :
    STr C ⟨s.t, updM (match src with | some i => updM s.m i none | none => s.m) d (some (.arr sz e xs'))⟩ (updV ρ d v') a w' := by
  have hsm : ∀ k, k ≠ d → ∀ o, (match src with | some i => updM s.m i none | none => s.m) k = some o → s.m k = some o ∧ src ≠ some k := by
    intro k hk o ho
    cases src with
    | none => exact ⟨ho, by simp⟩
    | some i =>
      by_cases e : k = i
      · subst e; simp only [updM_same] at ho; cases ho
      · simp only [updM_ne _ _ e] at ho; exact ⟨ho, by simpa using fun e' => e e'.symm⟩
  have hub : ∀ b, u.ownBlock = some b → live s.m ρ b ∧ ∃ i, src = some i ∧ Value.blk (ρ i) = some b := by
    intro b hb
    cases src with
    | none => simp only at hsrc; subst hsrc; cases hb
    | some i =>
      obtain ⟨xs, hi, rfl, _⟩ := hsrc
      have hh := (h.obj i _ hi).2
      obtain ⟨vs, hown, _⟩ := hh
      rw [← blk_own hown] at hb
      exact ⟨⟨i, _, hi, hb⟩, i, rfl, hb⟩
  have hv : ∀ b, Value.blk v' = some b → (u.ownBlock = some b ∨ b = w.heap.size) ∧ b < w'.heap.size := by
    intro b hb
    have hlt : ∀ k, v'.ownBlock = some k → 0 ≤ k ∧ k < w'.heap.size := ownsV_lt hown'
    rw [blk_own hown'] at hb
    refine ⟨?_, (hlt b hb).2⟩
    rcases hat with hh | hh | hh
    · exact .inl (hh ▸ hb)
    · rw [hh] at hb; cases hb
    · rw [hh] at hb; cases hb; exact .inr rfl
  have hsz : w.heap.size ≤ w'.heap.size := hg.size
  have hT : ∀ i, (src ≠ some d ∧ i = d) ∨ Turns s.m (updM (match src with | some i => updM s.m i none | none => s.m) d (some (.arr sz e xs'))) ρ (updV ρ d v') i := by
    intro i
    by_cases ed : i = d
    · subst ed
      by_cases es : src = some i
      · subst es
        obtain ⟨xs, hi, _, hl⟩ := hsrc
        exact .inr (.inr (.inl ⟨sz, e, xs, e, xs', hi, by rw [updM_same], hl rfl⟩))
      · exact .inl ⟨es, rfl⟩
    · refine .inr ?_
      cases src with
      | none => exact .inr (.inr ⟨updV_ne _ _ ed, .inl (updM_ne _ _ ed)⟩)
      | some k =>
        by_cases ek : i = k
        · subst ek; exact .inl (by rw [updM_ne _ _ ed]; exact updM_same _ _ _)
        · exact .inr (.inr ⟨updV_ne _ _ ed, .inl (by rw [updM_ne _ _ ed]; exact updM_ne _ _ ek)⟩)
  refine h.turn (w' := w') ⟨hg.os, hg.tape, hg.output, hg.size, fun b hb hn => hg.block b hb fun e => hn (hub b e.symm).1⟩ ?_ ?_ ?_ ?_ ?_ (fun i hi => updV_ne _ _ (by omega))
  · rintro b ⟨i, o, hi, hb⟩
    by_cases ed : i = d
    · subst ed; rw [updV_same] at hb
      rcases (hv b hb).1 with hh | hh
      · exact .inl (hub b hh).1
      · exact .inr (by omega)
    · rw [updM_ne _ _ ed] at hi; rw [updV_ne _ _ ed] at hb
      exact .inl ⟨i, o, (hsm i ed o hi).1, hb⟩
  · intro i
    rcases hT i with ⟨h1, rfl⟩ | ht
    · exact .inl (hfresh h1).1
    · exact .inr ht
  · intro hL hw i o hi
    by_cases ed : i = d
    · subst ed; rw [updM_same] at hi; cases hi; rw [updV_same]
      exact ⟨h0, vs', hown', hx _ hL⟩
    · rw [updM_ne _ _ ed] at hi; rw [updV_ne _ _ ed]
      obtain ⟨hi', hne⟩ := hsm i ed o hi
      refine (h.obj i o hi').keep hL hw (fun b hb => hg.block b (h.own i o b hi' hb).2 fun eb => ?_) fun k => ?_
      · obtain ⟨_, k, hk, hbk⟩ := hub b eb.symm
        subst hk
        obtain ⟨xs, hk', _⟩ := hsrc
        exact hne (by rw [h.inj k i _ o b hk' hi' hbk hb])
      · rcases hT k with ⟨h1, rfl⟩ | ht
        · exact .inl ((hfresh h1).2 i o hi')
        · exact .inr ht
  · intro i o b hi hb
    by_cases ed : i = d
    · subst ed; rw [updV_same] at hb
      obtain ⟨h1, h2⟩ := hv b hb
      refine ⟨?_, h2⟩
      rcases h1 with h1 | h1
      · obtain ⟨_, k, hk, hbk⟩ := hub b h1
        subst hk
        obtain ⟨xs, hk', _⟩ := hsrc
        exact (h.own k _ b hk' hbk).1
      · exact .inr (by have := h.keep.size; omega)
    · rw [updM_ne _ _ ed] at hi; rw [updV_ne _ _ ed] at hb
      have := h.own i o b (hsm i ed o hi).1 hb
      exact ⟨this.1, by omega⟩
  · have key : ∀ i oi b, i ≠ d → updM (match src with | some i => updM s.m i none | none => s.m) d (some (.arr sz e xs')) i = some oi → Value.blk (updV ρ d v' i) = some b → Value.blk v' = some b → False := by
      intro i oi b ed hi hb hvb
      rw [updM_ne _ _ ed] at hi; rw [updV_ne _ _ ed] at hb
      obtain ⟨hi', hne⟩ := hsm i ed oi hi
      rcases (hv b hvb).1 with h1 | h1
      · obtain ⟨_, k, hk, hbk⟩ := hub b h1
        subst hk
        obtain ⟨xs, hk', _⟩ := hsrc
        exact hne (by rw [h.inj k i _ oi b hk' hi' hbk hb])
      · have := (h.own i oi b hi' hb).2; omega
    intro i j oi oj b hi hj hbi hbj
    by_cases ei : i = d
    · by_cases ej : j = d
      · rw [ei, ej]
      · subst ei; rw [updV_same] at hbi
        exact (key j oj b ej hj hbj hbi).elim
    · by_cases ej : j = d
      · subst ej; rw [updV_same] at hbj
        exact (key i oi b ei hi hbi hbj).elim
      · rw [updM_ne _ _ ei] at hi; rw [updV_ne _ _ ei] at hbi
        rw [updM_ne _ _ ej] at hj; rw [updV_ne _ _ ej] at hbj
        exact h.inj i j oi oj b (hsm i ei oi hi).1 (hsm j ej oj hj).1 hbi hbj

/-- Cell j of a variable of the call's own. -/
theorem ObRel.box_cell {L : Nat → Prop} {m : Nat → Option Ob} {u : Value} {cells : List AV} (h : ObRel w L ρ m u (.box cells)) :
    ∃ b cs ty, u = .pointer (some ⟨b, 0, none⟩) ∧ w.heap[b]? = some (.cells cs ty (0, 0)) ∧ cs.size = cells.length ∧
      (∀ j y, cells[j]? = some y → w.cell? ⟨b, j, none⟩ = some (cs.getD j undef) ∧ RepA w L ρ m (cs.getD j undef) y) ∧ ∀ j, w.frozen? ⟨b, j, none⟩ = false := by
  obtain ⟨b, cs, ty, rfl, hh, hs, hc⟩ := h
  refine ⟨b, cs, ty, rfl, hh, hs, fun j y hy => ⟨?_, hc j y hy⟩, fun j => ?_⟩
  · rw [cell_of_row w b j cs ty (0, 0) hh]
    have hlt : j < cs.size := by rw [hs]; exact (List.getElem?_eq_some_iff.1 hy).1
    simp [hlt]
  · simp [World.frozen?, hh]

/-- The cells of element k of a slice of the call's own. -/
theorem ObRel.arr_cell {L : Nat → Prop} {m : Nat → Option Ob} {u : Value} {sz e : Nat} {xs : List CV} (h : ObRel w L ρ m u (.arr sz e xs)) {k : Nat} {x : CV} (hk : xs[k]? = some x) :
    x.cells.length = sz ∧ ∃ b o cap, u = .slice (some ⟨b, o, none⟩) xs.length cap ∧
      ∀ j y, x.cells[j]? = some y → ∃ v, w.cell? ⟨b, o + (k * sz + j), none⟩ = some v ∧ Rep w L v y := by
  obtain ⟨h0, vs, hown, hx⟩ := h
  have hlt : k < xs.length := (List.getElem?_eq_some_iff.1 hk).1
  refine ⟨(hx k x hk).1, ?_⟩
  rcases hown.2 with ⟨_, h2⟩ | ⟨g, o, cap, cur, hv, hgg, hnc, hcm, hcs, htake⟩
  · omega
  · refine ⟨g, o, cap, hv, fun j y hy => ⟨vs.getD (k * sz + j) undef, ?_, (hx k x hk).2 j y hy⟩⟩
    have hj : j < sz := by rw [← (hx k x hk).1]; exact (List.getElem?_eq_some_iff.1 hy).1
    have hlt2 : k * sz + j < vs.length := by
      rw [hown.1]
      calc k * sz + j < k * sz + sz := by omega
        _ = (k + 1) * sz := by rw [Nat.succ_mul]
        _ ≤ xs.length * sz := Nat.mul_le_mul_right _ (by omega)
    rw [cell_of_row w g (o + (k * sz + j)) cur e (0, 0) hgg]
    have hlt3 : k * sz + j < xs.length * sz := by rw [← hown.1]; exact hlt2
    have h3 : vs.getD (k * sz + j) undef = ((cur.toList.drop o).take (xs.length * sz)).getD (k * sz + j) undef := by rw [htake]
    have hle : xs.length * sz ≤ cap * sz := Nat.mul_le_mul_right _ hnc
    have hoc : o + (k * sz + j) < cur.size := by omega
    rw [h3]
    simp [List.getD, List.getElem?_take, hlt3, List.getElem?_drop, hoc]
end
end Go.AM

/- The abstract machine, part 6: what an operation makes of abstract values. It speaks of whatever program. -/
namespace Go.AM
open Go Go.RowKit
set_option linter.unusedVariables false
set_option linter.unusedSimpArgs false

structure TD where
  sz : Nat
  bytes : Nat
  zero : List Value
  desc : TypeDesc
def aggD : TypeDesc → Bool
  | .struct _ | .array _ _ => true
  | _ => false

/-- A program, and a table of the types that are met. -/
structure Env where
  P : Program
  Ty : Nat → Option TD
  ok : ∀ t d, Ty t = some d → P.underlying t = some d.desc ∧ ∃ i, P.info? t = some i ∧ i.size = d.sz ∧ i.bytes = d.bytes ∧ ∃ z, i.zero = some z ∧ z.cells.toList = d.zero
  zl : ∀ t d, Ty t = some d → d.zero.length = d.sz
  mixed : P.follows .mixedOrders = true

def AS.ev (s : AS) : Operand → AV
  | .tmp t => s.t t
  | .const v => .c (.v v)
  | .global _ => .any
  | .func f => .c (.v (.func (.func f) #[] #[]))

/-! ### what is handed over and back -/
inductive LeC : CV → CV → Prop where
  | refl (x : CV) : LeC x x
  | nil (sz : Nat) (h : 0 < sz) : LeC (.v (.slice none 0 0)) (.sl sz [])
  | fl (b : Nat) : LeC (.v (.float .f64 b)) (.fl b)
  | agg {xs ys : List CV} (hn : xs.length = ys.length) (h : ∀ (j : Nat) (x y : CV), xs[j]? = some x → ys[j]? = some y → LeC x y) : LeC (.agg xs) (.agg ys)
  | ex {b : Nat} (h : ¬ fnan b) : LeC (.fl b) (.v (.float .f64 b))
  | fn0 (f : FuncId) : LeC (.v (.func (.func f) #[] #[])) (.fn f [])
theorem LeC.rep {w : World} {L : Nat → Prop} {x y : CV} (h : LeC x y) : ∀ v, Rep w L v x → Rep w L v y := by
  induction h with
  | refl x => exact fun v h => h
  | ex hn => intro v h; cases h with | fl h => rcases h with rfl | ⟨_, h⟩; exact .v _; exact absurd h hn
  | fn0 f => intro v h; cases h; exact .fn (vs := []) rfl fun j y hy => by simp at hy
  | nil sz h =>
    intro v hv; cases hv
    exact .sl (fun _ _ => undef) rfl (Nat.le_refl _) (by simp [maxLen]) h (fun h => absurd h (by omega)) (fun i x hx => by simp at hx) (fun i x hx => by simp at hx)
  | fl b => intro v hv; cases hv; exact .fl (flRel.refl _)
  | agg hn h ih =>
    intro v hv
    cases hv with
    | agg hn' hx =>
      refine .agg (hn'.trans hn) fun j y hy => ?_
      rename_i xs ys vs
      have hj : j < xs.length := by rw [hn]; exact (List.getElem?_eq_some_iff.1 hy).1
      exact ih j _ y (List.getElem?_eq_getElem hj) hy _ (hx j _ (List.getElem?_eq_getElem hj))
inductive ToC : AV → CV → Prop where
  | c {x y : CV} (h : LeC x y) : ToC (.c x) y
  | agg {xs : List AV} {ys : List CV} (hn : xs.length = ys.length) (h : ∀ (j : Nat) (x : AV) (y : CV), xs[j]? = some x → ys[j]? = some y → ToC x y) : ToC (.agg xs) (.agg ys)
theorem ToC.rep {w : World} {L : Nat → Prop} {ρ : Nat → Value} {m : Nat → Option Ob} {x : AV} {y : CV} (h : ToC x y) : ∀ v, RepA w L ρ m v x → Rep w L v y := by
  induction h with
  | c h => intro v hv; cases hv with | c hv => exact h.rep v hv
  | agg hn h ih =>
    intro v hv
    cases hv with
    | agg hn' hx =>
      refine .agg (hn'.trans hn) fun j y hy => ?_
      rename_i xs ys vs
      have hj : j < xs.length := by rw [hn]; exact (List.getElem?_eq_some_iff.1 hy).1
      exact ih j _ y (List.getElem?_eq_getElem hj) hy _ (hx j _ (List.getElem?_eq_getElem hj))
def ToCs (xs : List AV) (ys : List CV) : Prop := xs.length = ys.length ∧ ∀ (j : Nat) (x : AV) (y : CV), xs[j]? = some x → ys[j]? = some y → ToC x y
theorem ToCs.nil : ToCs [] [] := ⟨rfl, fun j x y hx => by simp at hx⟩
theorem ToCs.cons {x : AV} {y : CV} {xs : List AV} {ys : List CV} (h : ToC x y) (hs : ToCs xs ys) : ToCs (x :: xs) (y :: ys) := by
  refine ⟨by simp [hs.1], fun j a b ha hb => ?_⟩
  cases j with
  | zero => simp at ha hb; subst ha; subst hb; exact h
  | succ j => simp at ha hb; exact hs.2 j a b ha hb
theorem ToC.aggs {xs : List AV} {ys : List CV} (h : ToCs xs ys) : ToC (.agg xs) (.agg ys) := .agg h.1 h.2

def ResRel (w : World) (L : Nat → Prop) (v : Value) (rs : List CV) : Prop :=
  match rs with
  | [x] => Rep w L v x
  | rs => ∃ vs, v = .tuple ⟨vs⟩ ∧ vs.length = rs.length ∧ ∀ (j : Nat) (y : CV), rs[j]? = some y → Rep w L (vs.getD j undef) y
def resAV (rs : List CV) : AV :=
  match rs with
  | [x] => .c x
  | rs => .tup (rs.map .c)
theorem ResRel.repA {w : World} {L : Nat → Prop} {ρ : Nat → Value} {m : Nat → Option Ob} {v : Value} {rs : List CV} (h : ResRel w L v rs) : RepA w L ρ m v (resAV rs) := by
  unfold ResRel at h; unfold resAV
  split at h
  · exact .c h
  · rename_i hne
    obtain ⟨vs, rfl, hn, hx⟩ := h
    refine .tup (by simpa using hn) fun j y hy => ?_
    simp only [List.getElem?_map] at hy
    obtain ⟨z, hz, rfl⟩ := Option.map_eq_some_iff.1 hy
    exact .c (hx j z hz)

def HasBody (P : Program) (f : FuncId) : Prop := ∃ fn, P.funcs[f]? = some fn ∧ fn.body.isNone = false ∧ (fn.name == "runtime.NumGoroutine") = false
/-- A function of content alone: what it hands back reads as rs; nothing old has turned. -/
def Pure (P : Program) (f : FuncId) (args : List CV) (rs : List CV) : Prop := HasBody P f ∧
  ∀ (w : World) (L : Nat → Prop) (vs : List Value), vs.length = args.length → (∀ (j : Nat) (y : CV), args[j]? = some y → Rep w L (vs.getD j undef) y) → (∀ b, L b → b < w.heap.size) →
    Calls P f ⟨vs⟩ w fun e w' => ∃ v, e = .returned v ∧ ResRel w' L v rs ∧ Keep (fun _ => False) w w'
/-- The same of a function without a body. -/
def PureX (P : Program) (f : FuncId) (args : List CV) (r : CV) : Prop :=
  ∀ (w : World) (L : Nat → Prop) (vs : List Value), vs.length = args.length → (∀ (j : Nat) (y : CV), args[j]? = some y → Rep w L (vs.getD j undef) y) →
    ∃ v, (callFunc f ⟨vs⟩).run P w = .ok (.value v) w ∧ Rep w L v r

/-- What a call may look at, that hands back no address: objects' contents too (the last list names them). -/
inductive ToB (m : Nat → Option Ob) : List AV → List CV → List Nat → Prop where
  | nil : ToB m [] [] []
  | c {x : AV} {y : CV} {xs : List AV} {ys : List CV} {R : List Nat} (h : ToC x y) (hs : ToB m xs ys R) : ToB m (x :: xs) (y :: ys) R
  | ms {i n sz e : Nat} {zs : List CV} {xs : List AV} {ys : List CV} {R : List Nat} (hm : m i = some (.arr sz e zs)) (hn : zs.length = n) (hs : ToB m xs ys R) : ToB m (.ms i n :: xs) (.sl sz zs :: ys) (i :: R)
  | agg {us : List AV} {vs : List CV} {xs : List AV} {ys : List CV} {R R' : List Nat} (h : ToB m us vs R) (hs : ToB m xs ys R') : ToB m (.agg us :: xs) (.agg vs :: ys) (R ++ R')
def CV.atom : CV → Bool
  | .v _ => true
  | .fl _ => true
  | _ => false
def CV.scalar : CV → Bool
  | .agg cs => cs.all CV.atom
  | x => x.atom

/-! ### cells -/
inductive One (m : Nat → Option Ob) : AV → List Nat → Prop where
  | v {u : Value} (h : u.oneCell' = true) : One m (.c (.v u)) []
  | fl (b : Nat) : One m (.c (.fl b)) []
  | sl (sz : Nat) (xs : List CV) : One m (.c (.sl sz xs)) []
  | ad (cs : List CV) : One m (.c (.ad cs)) []
  | ms {i n sz e : Nat} {xs : List CV} (hm : m i = some (.arr sz e xs)) (hn : xs.length = n) : One m (.ms i n) [i]
  | loc {i off : Nat} {cs : List AV} (hm : m i = some (.box cs)) : One m (.loc i off) [i]
inductive Cells (m : Nat → Option Ob) : AV → List AV → List Nat → Prop where
  | agg (xs : List AV) : Cells m (.agg xs) xs []
  | cagg (cs : List CV) : Cells m (.c (.agg cs)) (cs.map .c) []
  | one {x : AV} {R : List Nat} (h : One m x R) : Cells m x [x] R
inductive AllOne (m : Nat → Option Ob) : List AV → List Nat → Prop where
  | nil : AllOne m [] []
  | cons {x : AV} {xs : List AV} {R R' : List Nat} (h : One m x R) (hs : AllOne m xs R') : AllOne m (x :: xs) (R ++ R')

def CV.plain : CV → Bool
  | .v (.agg _) => false
  | _ => true

/-! ### plain operations on exact values -/
def intV (op : BinOp) (k : IntKind) (a b : Int) : Option Value :=
  match op with
  | .add => some (.int k (k.wrap (a + b)))
  | .sub => some (.int k (k.wrap (a - b)))
  | .mul => some (.int k (k.wrap (a * b)))
  | .eql => some (.bool (a == b))
  | .neq => some (.bool (a != b))
  | .lss => some (.bool (a < b))
  | .leq => some (.bool (a ≤ b))
  | .gtr => some (.bool (a > b))
  | .geq => some (.bool (a ≥ b))
  | _ => none
def strV (op : BinOp) (a b : ByteArray) : Option Value :=
  match op with
  | .eql => some (.bool (a.toList == b.toList))
  | .neq => some (.bool !(a.toList == b.toList))
  | .lss => some (.bool (Op.bytesLess a.toList b.toList))
  | .leq => some (.bool (Op.bytesLess a.toList b.toList || a.toList == b.toList))
  | .gtr => some (.bool !(Op.bytesLess a.toList b.toList || a.toList == b.toList))
  | .geq => some (.bool !(Op.bytesLess a.toList b.toList))
  | _ => none
def flV (op : BinOp) (a b : Nat) : Option Bool :=
  let c := FloatKind.f64.format.order a b
  match op with
  | .eql => some (c == some .eq)
  | .neq => some (c != some .eq)
  | .lss => some (c == some .lt)
  | .leq => some (c == some .lt || c == some .eq)
  | .gtr => some (c == some .gt)
  | .geq => some (c == some .gt || c == some .eq)
  | _ => none
def asF : CV → Option Nat
  | .fl b => some b
  | .v (.float .f64 b) => some b
  | _ => none

def setMany (cells : List AV) (off : Nat) (ys : List AV) : List AV := cells.take off ++ ys ++ cells.drop (off + ys.length)

/-- The parts of a composite, filled in. -/
inductive Fill (E : Env) (m : Nat → Option Ob) (fs : Array Field) : List AV → List (Nat × AV) → List AV → List Nat → Prop where
  | nil (cells : List AV) : Fill E m fs cells [] cells []
  | cons {cells : List AV} {i : Nat} {v : AV} {ys : List AV} {rest : List (Nat × AV)} {out : List AV} {fld : Field} {fd : TD} {R R' : List Nat}
      (hf : fs[i]? = some fld) (ht : E.Ty fld.type = some fd) (hc : Cells m v ys R) (hl : ys.length = fd.sz) (hb : fld.offset + fd.sz ≤ cells.length)
      (h : Fill E m fs (setMany cells fld.offset ys) rest out R') : Fill E m fs cells ((i, v) :: rest) out (R ++ R')

/-- A value that an operation makes of values (and of objects' cells: the last list names the objects). -/
inductive StepV (E : Env) (m : Nat → Option Ob) (ev : Operand → AV) : Op → AV → List Nat → Prop where
  | move (x : Operand) : StepV E m ev (.move x) (ev x) []
  | assign (x : Operand) : StepV E m ev (.assign x) (ev x) []
  | pickT {c a b : Operand} (hc : ev c = .c (.v (.bool true))) : StepV E m ev (.pick c a b) (ev a) []
  | pickF {c a b : Operand} (hc : ev c = .c (.v (.bool false))) : StepV E m ev (.pick c a b) (ev b) []
  | loadL {t : TypeId} {x : Operand} {i off : Nat} {cells : List AV} {d : TD} {y : AV} (hx : ev x = .loc i off) (hm : m i = some (.box cells)) (ht : E.Ty t = some d)
      (hd : aggD d.desc = false) (hy : cells[off]? = some y) : StepV E m ev (.load t x) y [i]
  | loadLA {t : TypeId} {x : Operand} {i off : Nat} {cells : List AV} {d : TD} (hx : ev x = .loc i off) (hm : m i = some (.box cells)) (ht : E.Ty t = some d)
      (hd : aggD d.desc = true) (hl : off + d.sz ≤ cells.length) : StepV E m ev (.load t x) (.agg ((cells.drop off).take d.sz)) [i]
  | loadC {t : TypeId} {x : Operand} {cs : List CV} {d : TD} {y : CV} (hx : ev x = .c (.ad cs)) (ht : E.Ty t = some d)
      (hd : aggD d.desc = false) (hy : cs[0]? = some y) : StepV E m ev (.load t x) (.c y) []
  | loadCA {t : TypeId} {x : Operand} {cs : List CV} {d : TD} (hx : ev x = .c (.ad cs)) (ht : E.Ty t = some d)
      (hd : aggD d.desc = true) (hl : d.sz ≤ cs.length) : StepV E m ev (.load t x) (.c (.agg (cs.take d.sz))) []
  | loadE {t : TypeId} {x : Operand} {i n sz k off e : Nat} {xs : List CV} {x0 y : CV} {d : TD} (hx : ev x = .el i n sz k off) (hm : m i = some (.arr sz e xs)) (hn : xs.length = n) (hk : xs[k]? = some x0)
      (ht : E.Ty t = some d) (hd : aggD d.desc = false) (hy : x0.cells[off]? = some y) : StepV E m ev (.load t x) (.c y) [i]
  | loadEA {t : TypeId} {x : Operand} {i n sz k off e : Nat} {xs : List CV} {x0 : CV} {d : TD} (hx : ev x = .el i n sz k off) (hm : m i = some (.arr sz e xs)) (hn : xs.length = n) (hk : xs[k]? = some x0)
      (ht : E.Ty t = some d) (hd : aggD d.desc = true) (hl : off + d.sz ≤ x0.cells.length) : StepV E m ev (.load t x) (.c (.agg ((x0.cells.drop off).take d.sz))) [i]
  | fldL {t : TypeId} {x : Operand} {f i off : Nat} {cells : List AV} {d fd : TD} {fs : Array Field} {fld : Field} (hx : ev x = .loc i off) (hm : m i = some (.box cells)) (ht : E.Ty t = some d) (hd : d.desc = .struct fs)
      (hf : fs[f]? = some fld) (h2 : E.Ty fld.type = some fd) (h0 : Nat.beq fd.sz 0 = false) : StepV E m ev (.fieldAddr t x f) (.loc i (off + fld.offset)) [i]
  | fldC {t : TypeId} {x : Operand} {f : Nat} {cs : List CV} {d fd : TD} {fs : Array Field} {fld : Field} (hx : ev x = .c (.ad cs)) (ht : E.Ty t = some d) (hd : d.desc = .struct fs)
      (hf : fs[f]? = some fld) (h2 : E.Ty fld.type = some fd) (h0 : Nat.beq fd.sz 0 = false) (hl : fld.offset < cs.length) : StepV E m ev (.fieldAddr t x f) (.c (.ad (cs.drop fld.offset))) []
  | fldE {t : TypeId} {x : Operand} {f i n sz k off e : Nat} {xs : List CV} {d fd : TD} {fs : Array Field} {fld : Field} (hx : ev x = .el i n sz k off) (hm : m i = some (.arr sz e xs)) (hn : xs.length = n) (ht : E.Ty t = some d) (hd : d.desc = .struct fs)
      (hf : fs[f]? = some fld) (h2 : E.Ty fld.type = some fd) (h0 : Nat.beq fd.sz 0 = false) : StepV E m ev (.fieldAddr t x f) (.el i n sz k (off + fld.offset)) [i]
  | idxC {t : TypeId} {x ix : Operand} {sz e : Nat} {xs : List CV} {k : IntKind} {n : Int} {y : CV} {d de : TD} (hx : ev x = .c (.sl sz xs)) (hi : ev ix = .c (.v (.int k n))) (h0 : 0 ≤ n) (hy : xs[n.toNat]? = some y)
      (ht : E.Ty t = some d) (hd : d.desc = .slice e) (he : E.Ty e = some de) (hs : de.sz = sz) : StepV E m ev (.indexAddr t x ix) (.c (.ad y.cells)) []
  | idxM {t : TypeId} {x ix : Operand} {i n0 sz e e' : Nat} {xs : List CV} {k : IntKind} {n : Int} {d de : TD} (hx : ev x = .ms i n0) (hm : m i = some (.arr sz e' xs)) (hn : xs.length = n0)
      (hi : ev ix = .c (.v (.int k n))) (h0 : 0 ≤ n) (hlt : n < n0) (ht : E.Ty t = some d) (hd : d.desc = .slice e) (he : E.Ty e = some de) (hs : de.sz = sz) : StepV E m ev (.indexAddr t x ix) (.el i n0 sz n.toNat 0) [i]
  | idxS {t : TypeId} {x ix : Operand} {b : ByteArray} {k : IntKind} {n : Int} {d : TD} (hx : ev x = .c (.v (.string b))) (hi : ev ix = .c (.v (.int k n))) (h0 : 0 ≤ n) {c : UInt8} (hc : b[n.toNat]? = some c)
      (ht : E.Ty t = some d) (hd : d.desc = .string) : StepV E m ev (.index t x ix) (.c (.v (.int .u8 c.toNat))) []
  | lenC {t : TypeId} {x : Operand} {sz e : Nat} {xs : List CV} {d : TD} (hx : ev x = .c (.sl sz xs)) (ht : E.Ty t = some d) (hd : d.desc = .slice e) :
      StepV E m ev (.call { callee := .builtin .len, args := #[x], argTypes := #[t] }) (.c (.v (.int .i64 xs.length))) []
  | lenV {t : TypeId} {x : Operand} {a : Option Addr} {n c e : Nat} {d : TD} (hx : ev x = .c (.v (.slice a n c))) (ht : E.Ty t = some d) (hd : d.desc = .slice e) :
      StepV E m ev (.call { callee := .builtin .len, args := #[x], argTypes := #[t] }) (.c (.v (.int .i64 n))) []
  | lenM {t : TypeId} {x : Operand} {i n sz e e' : Nat} {xs : List CV} {d : TD} (hx : ev x = .ms i n) (hm : m i = some (.arr sz e' xs)) (hn : xs.length = n) (ht : E.Ty t = some d) (hd : d.desc = .slice e) :
      StepV E m ev (.call { callee := .builtin .len, args := #[x], argTypes := #[t] }) (.c (.v (.int .i64 n))) [i]
  | lenS {t : TypeId} {x : Operand} {b : ByteArray} {d : TD} (hx : ev x = .c (.v (.string b))) (ht : E.Ty t = some d) (hd : d.desc = .string) :
      StepV E m ev (.call { callee := .builtin .len, args := #[x], argTypes := #[t] }) (.c (.v (.int .i64 b.size))) []
  | binI {op : BinOp} {t u : TypeId} {x y : Operand} {k : IntKind} {a b : Int} {r : Value} (hx : ev x = .c (.v (.int k a))) (hy : ev y = .c (.v (.int k b))) (hr : intV op k a b = some r) :
      StepV E m ev (.binOp op t x y u) (.c (.v r)) []
  | binR {t u : TypeId} {x y : Operand} {k : IntKind} {a b : Int} (hx : ev x = .c (.v (.int k a))) (hy : ev y = .c (.v (.int k b))) (hb : (b == 0) = false) :
      StepV E m ev (.binOp .rem t x y u) (.c (.v (.int k (a.tmod b)))) []
  | binS {op : BinOp} {t u : TypeId} {x y : Operand} {a b : ByteArray} {r : Value} (hx : ev x = .c (.v (.string a))) (hy : ev y = .c (.v (.string b))) (hr : strV op a b = some r) :
      StepV E m ev (.binOp op t x y u) (.c (.v r)) []
  | binSA {t u : TypeId} {x y : Operand} {a b : ByteArray} (hx : ev x = .c (.v (.string a))) (hy : ev y = .c (.v (.string b))) (hl : a.size + b.size ≤ 9223372036854775807) :
      StepV E m ev (.binOp .add t x y u) (.c (.v (.string (a ++ b)))) []
  | binBE {t u : TypeId} {x y : Operand} {a b : Bool} {d : TD} (hx : ev x = .c (.v (.bool a))) (hy : ev y = .c (.v (.bool b))) (ht : E.Ty t = some d) (hd : d.desc = .bool) :
      StepV E m ev (.binOp .eql t x y u) (.c (.v (.bool (a == b)))) []
  | binBN {t u : TypeId} {x y : Operand} {a b : Bool} {d : TD} (hx : ev x = .c (.v (.bool a))) (hy : ev y = .c (.v (.bool b))) (ht : E.Ty t = some d) (hd : d.desc = .bool) :
      StepV E m ev (.binOp .neq t x y u) (.c (.v (.bool !(a == b)))) []
  | binF {op : BinOp} {t u : TypeId} {x y : Operand} {cx cy : CV} {a b : Nat} {r : Bool} (hx : ev x = .c cx) (hy : ev y = .c cy) (ha : asF cx = some a) (hb : asF cy = some b) (hr : flV op a b = some r) :
      StepV E m ev (.binOp op t x y u) (.c (.v (.bool r))) []
  | binFA {t u : TypeId} {x y : Operand} {cx cy : CV} {a b : Nat} (hx : ev x = .c cx) (hy : ev y = .c cy) (ha : asF cx = some a) (hb : asF cy = some b) :
      StepV E m ev (.binOp .add t x y u) (.c (.fl (addF a b))) []
  | unN {t : TypeId} {x : Operand} {b : Bool} (hx : ev x = .c (.v (.bool b))) : StepV E m ev (.unOp .not t x) (.c (.v (.bool !b))) []
  | unG {t : TypeId} {x : Operand} {k : IntKind} {n : Int} (hx : ev x = .c (.v (.int k n))) : StepV E m ev (.unOp .neg t x) (.c (.v (.int k (k.wrap (0 - n))))) []
  | conv {t u : TypeId} {x : Operand} {k k' : IntKind} {n : Int} {d d' : TD} (hx : ev x = .c (.v (.int k n))) (ht : E.Ty t = some d) (hu : E.Ty u = some d') (hd : d'.desc = .int k') :
      StepV E m ev (.convert t u x) (.c (.v (.int k' (k'.wrap n)))) []
  | convF {t u : TypeId} {x : Operand} {k : IntKind} {n : Int} {d d' : TD} (hx : ev x = .c (.v (.int k n))) (ht : E.Ty t = some d) (hu : E.Ty u = some d') (hd : d'.desc = .float .f64) :
      StepV E m ev (.convert t u x) (.c (.fl (FloatKind.f64.nearest n))) []
  | convB {t u : TypeId} {x : Operand} {e : Nat} {bs : List Int} {d de d' : TD} (hx : ev x = .c (.sl 1 (bs.map fun b => .v (.int .u8 b)))) (ht : E.Ty t = some d) (hd : d.desc = .slice e) (he : E.Ty e = some de) (hde : de.desc = .int .u8)
      (hu : E.Ty u = some d') (hd' : d'.desc = .string) : StepV E m ev (.convert t u x) (.c (.v (.string (strOfNums bs)))) []
  | extract {x : Operand} {j : Nat} {xs : List AV} {y : AV} (hx : ev x = .tup xs) (hy : xs[j]? = some y) : StepV E m ev (.extract x j) y []
  | build {t : TypeId} {parts : Array (Nat × Operand)} {d : TD} {fs : Array Field} {out : List AV} {R : List Nat} (ht : E.Ty t = some d) (hd : d.desc = .struct fs) (ha : fs.toList.all (fun f => (E.Ty f.type).isSome) = true)
      (hf : Fill E m fs (d.zero.map fun z => .c (.v z)) (parts.toList.map fun p => (p.1, ev p.2)) out R) : StepV E m ev (.build t parts) (.agg out) R
  | slc {t : TypeId} {x : Operand} {lo hi : Option Operand} {sz e l h : Nat} {xs : List CV} {d de : TD} (hx : ev x = .c (.sl sz xs)) (ht : E.Ty t = some d) (hd : d.desc = .slice e) (he : E.Ty e = some de) (hs : de.sz = sz)
      (hlo : match lo with | some o => ∃ k n, ev o = .c (.v (.int k n)) ∧ 0 ≤ n ∧ n.toNat = l | none => l = 0)
      (hhi : match hi with | some o => ∃ k n, ev o = .c (.v (.int k n)) ∧ 0 ≤ n ∧ n.toNat = h | none => h = xs.length) (hlh : l ≤ h) (hh : h ≤ xs.length) :
      StepV E m ev (.slice t x lo hi none) (.c (.sl sz ((xs.drop l).take (h - l)))) []
  | mkfun {fn : Fn} {captured : Array Operand} {us : List Value} (hc : captured.toList.map ev = us.map fun u => .c (.v u)) : StepV E m ev (.makeFunc fn #[] captured) (.c (.v (.func fn #[] ⟨us⟩))) []
  | mkfunC {f : FuncId} {captured : Array Operand} {cs : List CV} (hc : ToCs (captured.toList.map ev) cs) : StepV E m ev (.makeFunc (.func f) #[] captured) (.c (.fn f cs)) []
  | boxC {t : TypeId} {x : Operand} {y : CV} (hx : ToC (ev x) y) (hp : y.plain = true) (h0 : 0 < y.cells.length) : StepV E m ev (.box t x) (.c (.ad y.cells)) []
  | bslice {t : TypeId} {e sz : Nat} {parts : Array (Nat × Operand)} {xs : List CV} {d de : TD} (ht : E.Ty t = some d) (hd : d.desc = .slice e) (he : E.Ty e = some de) (hs : de.sz = sz) (h0 : Nat.beq sz 0 = false)
      (hi : parts.toList.map (·.1) = List.range xs.length) (hx : ToCs (parts.toList.map fun p => ev p.2) xs) (hl : ∀ x ∈ xs, x.cells.length = sz ∧ x.plain = true) (hb : xs.length * sz ≤ 16777216) :
      StepV E m ev (.buildSlice t xs.length parts) (.c (.sl sz xs)) []
  | mkslice {t : TypeId} {x y : Operand} {e : Nat} {k k' : IntKind} {n : Nat} {d de : TD} {z : Value} (hx : ev x = .c (.v (.int k n))) (hy : ev y = .c (.v (.int k' n))) (ht : E.Ty t = some d) (hd : d.desc = .slice e) (he : E.Ty e = some de)
      (hz : de.zero = [z]) (hs : de.sz = 1) (hb : n * de.bytes ≤ 140737488355328) (hn : n ≤ 140737488355328) : StepV E m ev (.makeSlice t x y) (.c (.sl 1 (List.replicate n (.v z)))) []
  | callP {callee : Operand} {args : Array Operand} {ats : Array TypeId} {f : FuncId} {us : List Value} {xs : List AV} {cs rs : List CV} (hc : ev callee = .c (.v (.func (.func f) #[] ⟨us⟩)))
      (hx : args.toList.map ev = xs) (ha : ToCs (xs ++ us.map fun u => .c (.v u)) cs) (hp : Pure E.P f cs rs) : StepV E m ev (.call { callee := .value callee, args := args, argTypes := ats }) (resAV rs) []
  | callF {callee : Operand} {args : Array Operand} {ats : Array TypeId} {f : FuncId} {us : List CV} {xs : List AV} {cs rs : List CV} (hc : ev callee = .c (.fn f us))
      (hx : args.toList.map ev = xs) (ha : ToCs (xs ++ us.map .c) cs) (hp : Pure E.P f cs rs) : StepV E m ev (.call { callee := .value callee, args := args, argTypes := ats }) (resAV rs) []
  | callX {callee : Operand} {args : Array Operand} {ats : Array TypeId} {f : FuncId} {xs : List AV} {cs : List CV} {r : CV} (hc : ev callee = .c (.v (.func (.func f) #[] #[])))
      (hx : args.toList.map ev = xs) (ha : ToCs xs cs) (hp : PureX E.P f cs r) : StepV E m ev (.call { callee := .value callee, args := args, argTypes := ats }) (.c r) []
  | callB {callee : Operand} {args : Array Operand} {ats : Array TypeId} {f : FuncId} {us : List Value} {cs rs : List CV} {R : List Nat} (hc : ev callee = .c (.v (.func (.func f) #[] ⟨us⟩)))
      (hx : ToB m (args.toList.map ev ++ us.map fun u => .c (.v u)) cs R) (hp : Pure E.P f cs rs) (hs : rs.all CV.scalar = true) : StepV E m ev (.call { callee := .value callee, args := args, argTypes := ats }) (resAV rs) R
end Go.AM

/- The abstract machine, part 7: the model does what part 6 says. It speaks of whatever program. -/
namespace Go.AM
open Go Go.RowKit
set_option linter.unusedVariables false
set_option linter.unusedSimpArgs false

section
variable {E : Env} {C : Ctx} {s : AS} {ρ : Nat → Value} {a : Act} {w : World}

theorem Env.und {t : Nat} {d : TD} (h : E.Ty t = some d) : E.P.underlying t = some d.desc := (E.ok t d h).1
theorem Env.size {t : Nat} {d : TD} (h : E.Ty t = some d) (w : World) : (sizeOf t).run E.P w = .ok d.sz w := by
  obtain ⟨_, i, hi, hs, _⟩ := E.ok t d h
  simp [sizeOf, typeInfo, hi, hs]
theorem Env.agg {t : Nat} {d : TD} (h : E.Ty t = some d) (w : World) : (isAgg t).run E.P w = .ok (aggD d.desc) w := by
  unfold isAgg
  simp only [Sem.run_bind, run_underlying (Env.und h), Result.andThen_ok]
  cases d.desc <;> rfl
theorem Env.zero {t : Nat} {d : TD} (h : E.Ty t = some d) (w : World) : ∃ z, (zeroValue t).run E.P w = .ok z w ∧ z.cells.toList = d.zero := by
  obtain ⟨_, i, hi, _, _, z, hz, hc⟩ := E.ok t d h
  exact ⟨z, by simp [zeroValue, typeInfo, hi, hz], hc⟩

theorem STr.evR (h : STr C s ρ a w) (x : Operand) : RepA w (LL C s.m ρ) ρ s.m (a.eval x) (s.ev x) := by
  cases x with
  | tmp t => exact h.tmp t
  | const v => exact .c (.v v)
  | global g => exact .any _
  | func f => exact .c (.v _)

theorem add_lit' (b o n : Nat) : (⟨b, o, none⟩ : Addr).add n = ⟨b, o + n, none⟩ := by unfold Addr.add; split <;> simp_all

/-- A scalar is loaded. -/
theorem run_loadS {t : Nat} {d : TD} (ht : E.Ty t = some d) (hd : aggD d.desc = false) (w : World) (b o : Nat) (v : Value) (hc : w.cell? ⟨b, o, none⟩ = some v) :
    (Instr.loadAt t (.pointer (some ⟨b, o, none⟩))).run E.P w = .ok v w := by
  simp [Instr.loadAt, Instr.sureAddr, loadVar, Env.agg ht, hd, hc]
theorem run_loadAg {t : Nat} {d : TD} (ht : E.Ty t = some d) (hd : aggD d.desc = true) (w : World) (b o : Nat) (vs : List Value) (hl : vs.length = d.sz)
    (hc : ∀ (j : Nat) (v : Value), vs[j]? = some v → w.cell? ⟨b, o + j, none⟩ = some v) :
    (Instr.loadAt t (.pointer (some ⟨b, o, none⟩))).run E.P w = .ok (.agg ⟨vs⟩) w := by
  have := run_loadCells_list (P := E.P) w ⟨b, o, none⟩ vs (fun j v hj => by rw [add_lit']; exact hc j v hj)
  rw [hl] at this
  simp [Instr.loadAt, Instr.sureAddr, loadVar, Env.agg ht, hd, Env.size ht, this]

theorem run_fieldAt' {t : Nat} {d fd : TD} {fs : Array Field} {fld : Field} {f : Nat} (ht : E.Ty t = some d) (hd : d.desc = .struct fs) (hf : fs[f]? = some fld) (h2 : E.Ty fld.type = some fd)
    (h0 : Nat.beq fd.sz 0 = false) (w : World) (b o : Nat) : (Instr.fieldAt t (.pointer (some ⟨b, o, none⟩)) f).run E.P w = .ok (.pointer (some ⟨b, o + fld.offset, none⟩)) w := by
  have h0' : ¬ fd.sz = 0 := fun e => by rw [e] at h0; cases h0
  have hu := Env.und ht; rw [hd] at hu
  simp [Instr.fieldAt, run_underlying hu, hf, Instr.sureAddr, fieldPlace, Env.size h2, h0', add_lit']

theorem run_indexAt' {t e : Nat} {d de : TD} (ht : E.Ty t = some d) (hd : d.desc = .slice e) (he : E.Ty e = some de) (w : World) (b o len cap : Nat) (k : IntKind) (n : Int) (h0 : 0 ≤ n) (hlt : n < len) :
    (Instr.indexAt t (.slice (some ⟨b, o, none⟩) len cap) (.int k n)).run E.P w = .ok (.pointer (some ⟨b, o + n.toNat * de.sz, none⟩)) w := by
  have hu := Env.und ht; rw [hd] at hu
  simp [Instr.indexAt, run_underlying hu, asIntOf, h0, hlt, Env.size he, add_lit']

theorem getD_some {l : List Value} {j : Nat} {v : Value} (h : l[j]? = some v) : l.getD j undef = v := by simp [List.getD, h]

/-! the reading of content -/
theorem Rep.ad_inv {L : Nat → Prop} {v : Value} {cs : List CV} (h : Rep w L v (.ad cs)) : ∃ b o, v = .pointer (some ⟨b, o, none⟩) ∧ ¬ L b ∧ 0 < cs.length ∧
    ∀ (j : Nat) (y : CV), cs[j]? = some y → ∃ u, w.cell? ⟨b, o + j, none⟩ = some u ∧ Rep w L u y := by
  cases h with
  | ad g hb h0 ha hx => exact ⟨_, _, rfl, hb, h0, fun j y hy => ⟨g j, ha j (List.getElem?_eq_some_iff.1 hy).1, hx j y hy⟩⟩
theorem Rep.ad_mk {L : Nat → Prop} {b o : Nat} {cs : List CV} (hb : ¬ L b) (h0 : 0 < cs.length) (hx : ∀ (j : Nat) (y : CV), cs[j]? = some y → ∃ u, w.cell? ⟨b, o + j, none⟩ = some u ∧ Rep w L u y) :
    Rep w L (.pointer (some ⟨b, o, none⟩)) (.ad cs) := by
  refine .ad (fun j => (w.cell? ⟨b, o + j, none⟩).getD undef) hb h0 (fun j hj => ?_) fun j y hy => ?_
  · obtain ⟨u, hu, _⟩ := hx j _ (List.getElem?_eq_getElem hj)
    rw [hu]; rfl
  · obtain ⟨u, hu, hr⟩ := hx j y hy
    rw [hu]; exact hr
theorem Rep.sl_inv {L : Nat → Prop} {v : Value} {sz : Nat} {xs : List CV} (h : Rep w L v (.sl sz xs)) : ∃ a cap, v = .slice a xs.length cap ∧ xs.length ≤ cap ∧ cap ≤ maxLen ∧ 0 < sz ∧
    (0 < xs.length → ∃ b o, a = some ⟨b, o, none⟩ ∧ ¬ L b ∧ ∀ (i : Nat) (x : CV), xs[i]? = some x → ∀ (j : Nat) (y : CV), x.cells[j]? = some y → ∃ u, w.cell? ⟨b, o + (i * sz + j), none⟩ = some u ∧ Rep w L u y) ∧
    ∀ (i : Nat) (x : CV), xs[i]? = some x → x.cells.length = sz := by
  cases h with
  | sl g hn hcap hmax hsz ha hlen hx =>
    subst hn
    refine ⟨_, _, rfl, hcap, hmax, hsz, fun h0 => ?_, hlen⟩
    obtain ⟨b, o, rfl, hb, hc⟩ := ha h0
    refine ⟨b, o, rfl, hb, fun i x hi j y hj => ⟨g i j, hc i (List.getElem?_eq_some_iff.1 hi).1 j ?_, hx i x hi j y hj⟩⟩
    have := (List.getElem?_eq_some_iff.1 hj).1
    rw [hlen i x hi] at this; exact this
theorem Rep.sl_mk {L : Nat → Prop} {a : Option Addr} {n cap sz : Nat} {xs : List CV} (hn : n = xs.length) (hcap : n ≤ cap) (hmax : cap ≤ maxLen) (hsz : 0 < sz)
    (hx : 0 < xs.length → ∃ b o, a = some ⟨b, o, none⟩ ∧ ¬ L b ∧ ∀ (i : Nat) (x : CV), xs[i]? = some x → ∀ (j : Nat) (y : CV), x.cells[j]? = some y → ∃ u, w.cell? ⟨b, o + (i * sz + j), none⟩ = some u ∧ Rep w L u y)
    (hlen : ∀ (i : Nat) (x : CV), xs[i]? = some x → x.cells.length = sz) : Rep w L (.slice a n cap) (.sl sz xs) := by
  refine .sl (fun i j => match a with | some a => (w.cell? ⟨a.block, a.off + (i * sz + j), none⟩).getD undef | none => undef) hn hcap hmax hsz (fun h0 => ?_) hlen fun i x hi j y hj => ?_
  · obtain ⟨b, o, rfl, hb, hc⟩ := hx (hn ▸ h0)
    refine ⟨b, o, rfl, hb, fun i hi j hj => ?_⟩
    have hix : xs[i]? = some (xs[i]'(hn ▸ hi)) := List.getElem?_eq_getElem (hn ▸ hi)
    have hjl : j < (xs[i]'(hn ▸ hi)).cells.length := by rw [hlen i _ hix]; exact hj
    obtain ⟨u, hu, _⟩ := hc i _ hix j _ (List.getElem?_eq_getElem hjl)
    show _ = some ((w.cell? ⟨b, o + (i * sz + j), none⟩).getD undef)
    rw [hu]; rfl
  · obtain ⟨b, o, rfl, hb, hc⟩ := hx (by have := (List.getElem?_eq_some_iff.1 hi).1; omega)
    obtain ⟨u, hu, hr⟩ := hc i x hi j y hj
    show Rep w L ((w.cell? ⟨b, o + (i * sz + j), none⟩).getD undef) y
    rw [hu]; exact hr

theorem RepA.c_inv {L : Nat → Prop} {m : Nat → Option Ob} {v : Value} {x : CV} (h : RepA w L ρ m v (.c x)) : Rep w L v x := by cases h with | c h => exact h
theorem Rep.v_inv {L : Nat → Prop} {v u : Value} (h : Rep w L v (.v u)) : v = u := by cases h; rfl
theorem RepA.v_inv {L : Nat → Prop} {m : Nat → Option Ob} {v u : Value} (h : RepA w L ρ m v (.c (.v u))) : v = u := h.c_inv.v_inv

theorem RepA.loc_inv {L : Nat → Prop} {m : Nat → Option Ob} {v : Value} {i off : Nat} (h : RepA w L ρ m v (.loc i off)) :
    ∀ cells, m i = some (.box cells) → ∃ b, ρ i = .pointer (some ⟨b, 0, none⟩) ∧ v = .pointer (some ⟨b, off, none⟩) := by cases h with | loc h => exact h
theorem RepA.ms_inv {L : Nat → Prop} {m : Nat → Option Ob} {v : Value} {i n : Nat} (h : RepA w L ρ m v (.ms i n)) :
    ∀ sz e xs, m i = some (.arr sz e xs) → n ≤ xs.length ∧ (xs.length = n → v = ρ i) := by cases h with | ms h => exact h
theorem RepA.el_inv {L : Nat → Prop} {m : Nat → Option Ob} {v : Value} {i n sz k off : Nat} (h : RepA w L ρ m v (.el i n sz k off)) :
    ∀ sz' e xs, m i = some (.arr sz' e xs) → n ≤ xs.length ∧ (xs.length = n → sz' = sz ∧ ∃ b o cap, ρ i = .slice (some ⟨b, o, none⟩) n cap ∧ v = .pointer (some ⟨b, o + (k * sz + off), none⟩)) := by cases h with | el h => exact h
theorem RepA.mv_inv {L : Nat → Prop} {m : Nat → Option Ob} {v : Value} {i n l h : Nat} {c : Option Nat} (hr : RepA w L ρ m v (.mv i n l h c)) :
    ∀ sz e xs, m i = some (.arr sz e xs) → n ≤ xs.length ∧ (xs.length = n → ViewOf sz n l h c (ρ i) v) := by cases hr with | mv hv => exact hv
theorem RepA.tup_inv {L : Nat → Prop} {m : Nat → Option Ob} {v : Value} {xs : List AV} (h : RepA w L ρ m v (.tup xs)) :
    ∃ vs, v = .tuple ⟨vs⟩ ∧ vs.length = xs.length ∧ ∀ (j : Nat) (y : AV), xs[j]? = some y → RepA w L ρ m (vs.getD j undef) y := by cases h with | tup hn hx => exact ⟨_, rfl, hn, hx⟩

theorem One.sound (h : STr C s ρ a w) {v : Value} {x : AV} {R : List Nat} (hv : RepA w (LL C s.m ρ) ρ s.m v x) (ho : One s.m x R) : v.oneCell' = true := by
  cases ho with
  | v hu => rw [hv.v_inv]; exact hu
  | fl b => cases hv.c_inv; rfl
  | sl sz xs => obtain ⟨_, _, rfl, _⟩ := hv.c_inv.sl_inv; rfl
  | ad cs => obtain ⟨_, _, rfl, _⟩ := hv.c_inv.ad_inv; rfl
  | ms hm hn =>
    cases hv with
    | ms hh =>
      rw [(hh _ _ _ hm).2 hn]
      obtain ⟨_, vs, hown, _⟩ := h.obj _ _ hm
      rcases hown.2 with ⟨e, _⟩ | ⟨_, _, _, _, e, _⟩ <;> rw [e] <;> rfl
  | loc hm =>
    cases hv with
    | loc hh => obtain ⟨b, _, rfl⟩ := hh _ hm; rfl

theorem cells_one {v : Value} (h : v.oneCell' = true) : v.cells = #[v] := by cases v <;> simp_all [Value.cells, Value.oneCell']

theorem Cells.sound (h : STr C s ρ a w) {v : Value} {x : AV} {ys : List AV} {R : List Nat} (hv : RepA w (LL C s.m ρ) ρ s.m v x) (hc : Cells s.m x ys R) :
    v.cells.size = ys.length ∧ ∀ (j : Nat) (y : AV), ys[j]? = some y → RepA w (LL C s.m ρ) ρ s.m (v.cells.getD j undef) y := by
  cases hc with
  | agg xs =>
    cases hv with
    | agg hn hx => exact ⟨by simpa [Value.cells] using hn, fun j y hy => by simpa [Value.cells, Array.getD_eq_getD_getElem?, List.getD] using hx j y hy⟩
  | cagg cs =>
    cases hv.c_inv with
    | agg hn hx =>
      refine ⟨by simpa [Value.cells] using hn, fun j y hy => ?_⟩
      simp only [List.getElem?_map] at hy
      obtain ⟨z, hz, rfl⟩ := Option.map_eq_some_iff.1 hy
      exact .c (by simpa [Value.cells, Array.getD_eq_getD_getElem?, List.getD] using hx j z hz)
  | one ho =>
    have h1 := One.sound h hv ho
    rw [cells_one h1]
    refine ⟨rfl, fun j y hy => ?_⟩
    cases j with
    | zero => simp at hy; subst hy; exact hv
    | succ j => simp at hy

theorem AllOne.sound (h : STr C s ρ a w) {xs : List AV} {R : List Nat} (ho : AllOne s.m xs R) : ∀ {vs : List Value}, vs.length = xs.length → (∀ (j : Nat) (y : AV), xs[j]? = some y → RepA w (LL C s.m ρ) ρ s.m (vs.getD j undef) y) →
    ∀ v ∈ vs, v.oneCell' = true := by
  induction ho with
  | nil => intro vs hl _ v hv; simp at hl; subst hl; simp at hv
  | cons h1 hs ih =>
    intro vs hl hx v hv
    cases vs with
    | nil => simp at hv
    | cons u us =>
      rcases List.mem_cons.1 hv with rfl | hv
      · exact One.sound h (by simpa using hx 0 _ rfl) h1
      · exact ih (vs := us) (by simpa using hl) (fun j y hy => by simpa using hx (j + 1) y (by simpa using hy)) v hv
end
end Go.AM

/- The abstract machine, part 8: each value operation, sound. It speaks of whatever program. -/
namespace Go.AM
open Go Go.RowKit
set_option linter.unusedVariables false
set_option linter.unusedSimpArgs false

section
variable {E : Env} {C : Ctx} {s : AS} {ρ : Nat → Value} {a : Act} {w : World} {K : Act → World → Prop} {Q : Exit → Act → World → Prop}

theorem wp_val {o : Oper} {u : Value} {w' : World} (hr : (execOp a.eval o).run E.P w = .ok (.value u) w') (hK : K (a.put o.dst u) w') : o.wp E.P a w K Q := by
  unfold Oper.wp; rw [hr]; exact hK

theorem keepL (h : STr C s ρ a w) {w' : World} (hk : Keep (fun _ => False) w w') {v : Value} {x : AV} (hv : RepA w (LL C s.m ρ) ρ s.m v x) : RepA w' (LL C s.m ρ) ρ s.m v x :=
  hv.keep (fun _ h _ => h) (fun b _ hb => hk.block b hb id) fun i => .inr (.inr (.inr ⟨rfl, .inl rfl⟩))

theorem ev_int (h : STr C s ρ a w) {x : Operand} {u : Value} (hx : s.ev x = .c (.v u)) : a.eval x = u := by
  have := h.evR x; rw [hx] at this; exact this.v_inv
theorem ev_fl (h : STr C s ρ a w) {x : Operand} {cx : CV} {b : Nat} (hx : s.ev x = .c cx) (hb : asF cx = some b) : ∃ r, a.eval x = .float .f64 r ∧ flRel r b := by
  have := h.evR x; rw [hx] at this
  have hr := this.c_inv
  cases cx with
  | v u =>
    cases u <;> simp [asF] at hb
    rename_i k n
    cases k <;> simp [asF] at hb
    subst hb
    exact ⟨n, hr.v_inv, flRel.refl _⟩
  | fl c => simp [asF] at hb; subst hb; generalize a.eval x = v at hr; cases hr with | fl hh => exact ⟨_, rfl, hh⟩
  | _ => simp [asF] at hb

theorem run_intV {op : BinOp} {k : IntKind} {x y : Int} {r : Value} (hr : intV op k x y = some r) (t : TypeId) : (binOp op t (.int k x) (.int k y)).run E.P w = .ok r w := by
  cases op <;> simp [intV] at hr <;> subst hr <;> simp [binOp, Op.intArith, Op.intCmp]
theorem run_strV {op : BinOp} {x y : ByteArray} {r : Value} (hr : strV op x y = some r) (t : TypeId) : (binOp op t (.string x) (.string y)).run E.P w = .ok r w := by
  cases op <;> simp [strV] at hr <;> subst hr <;> simp [binOp, Op.stringOp]
theorem run_flV {op : BinOp} {x y : Nat} {r : Bool} (hr : flV op x y = some r) (t : TypeId) : (binOp op t (.float .f64 x) (.float .f64 y)).run E.P w = .ok (.bool r) w := by
  cases op <;> simp [flV] at hr <;> subst hr <;> simp [binOp, Op.floatCmp]
theorem flV_rel {op : BinOp} {x y x' y' : Nat} (hx : flRel x x') (hy : flRel y y') : flV op x y = flV op x' y' := by
  unfold flV; rw [hx.order hy]

theorem guard_int (op : BinOp) (t : TypeId) (x y : Operand) (k : IntKind) (p q : Int) : (eqGuard op t x y (.int k p) (.int k q)).run E.P w = .ok () w := by
  cases op <;> simp [eqGuard]
theorem guard_str (op : BinOp) (t : TypeId) (x y : Operand) (p q : ByteArray) : (eqGuard op t x y (.string p) (.string q)).run E.P w = .ok () w := by
  cases op <;> simp [eqGuard]
theorem guard_fl (op : BinOp) (t : TypeId) (x y : Operand) (p q : Nat) : (eqGuard op t x y (.float .f64 p) (.float .f64 q)).run E.P w = .ok () w := by
  cases op <;> simp [eqGuard]
theorem guard_bool (op : BinOp) (t : TypeId) (x y : Operand) (p q : Bool) : (eqGuard op t x y (.bool p) (.bool q)).run E.P w = .ok () w := by
  cases op <;> simp [eqGuard]

/-- Loads, fields, indexes. -/
theorem StepV.wp_mem (h : STr C s ρ a w) {op : Op} {v : AV} {R : List Nat} (hs : StepV E s.m s.ev op v R) {o : Oper} (ho : o.op = op)
    (hop : (∃ t x, op = .load t x) ∨ (∃ t x f, op = .fieldAddr t x f) ∨ (∃ t x i, op = .indexAddr t x i))
    (hK : ∀ u, RepA w (LL C s.m ρ) ρ s.m u v → K (a.put o.dst u) w) : o.wp E.P a w K Q := by
  cases hs with
  | loadL hx hm ht hd hy =>
    rename_i t x i off cells d
    have hv := h.evR x; rw [hx] at hv
    have hh := hv.loc_inv
    obtain ⟨b, hρ, hv⟩ := hh _ hm
    obtain ⟨b', cs, ty, hu, hheap, hsz, hc, _⟩ := (h.obj i _ hm).box_cell
    rw [hρ] at hu; cases hu
    refine wp_val (u := cs.getD off undef) (w' := w) ?_ (hK _ (hc off v hy).2)
    simp [execOp, ho, hv, run_loadS ht hd w b off _ (hc off v hy).1]
  | loadLA hx hm ht hd hl =>
    rename_i t x i off cells d
    have hv := h.evR x; rw [hx] at hv
    have hh := hv.loc_inv
    obtain ⟨b, hρ, hv⟩ := hh _ hm
    obtain ⟨b', cs, ty, hu, hheap, hsz, hc, _⟩ := (h.obj i _ hm).box_cell
    rw [hρ] at hu; cases hu
    have hlen : ((cs.toList.drop off).take d.sz).length = d.sz := by simp; omega
    have hcell : ∀ (j : Nat) (u : Value), ((cs.toList.drop off).take d.sz)[j]? = some u → w.cell? ⟨b, off + j, none⟩ = some u := by
      intro j u hj
      rw [List.getElem?_take] at hj
      split at hj
      · rw [List.getElem?_drop] at hj
        rw [cell_of_row w b (off + j) cs ty (0, 0) hheap]
        simpa using hj
      · cases hj
    refine wp_val (u := .agg ⟨(cs.toList.drop off).take d.sz⟩) (w' := w) ?_ (hK _ (.agg (by rw [hlen]; simp; omega) fun j y hy => ?_))
    · simp only [execOp, ho, hv, Sem.run_bind, run_loadAg ht hd w b off _ hlen hcell, Result.andThen_ok, Sem.run_pure]
    · rw [List.getElem?_take] at hy
      split at hy
      · rename_i hjs
        rw [List.getElem?_drop] at hy
        have := (hc _ y hy).2
        rw [show ((cs.toList.drop off).take d.sz).getD j undef = cs.getD (off + j) undef by simp [List.getD, List.getElem?_take, hjs, Array.getD_eq_getD_getElem?]]
        exact this
      · cases hy
  | loadC hx ht hd hy =>
    rename_i t x cs d y
    have hv := h.evR x; rw [hx] at hv
    obtain ⟨b, of, hv, hb, h0, hc⟩ := hv.c_inv.ad_inv
    obtain ⟨u, hu, hr⟩ := hc 0 y hy
    refine wp_val (u := u) (w' := w) ?_ (hK _ (.c hr))
    simp [execOp, ho, hv, run_loadS ht hd w b of u (by simpa using hu)]
  | loadCA hx ht hd hl =>
    rename_i t x cs d
    have hv := h.evR x; rw [hx] at hv
    obtain ⟨b, of, hv, hb, h0, hc⟩ := hv.c_inv.ad_inv
    have hlen : ((List.range d.sz).map fun j => (w.cell? ⟨b, of + j, none⟩).getD undef).length = d.sz := by simp
    have hcs : ∀ j, j < d.sz → ∃ u, w.cell? ⟨b, of + j, none⟩ = some u ∧ ∀ y, cs[j]? = some y → Rep w (LL C s.m ρ) u y := by
      intro j hj
      obtain ⟨u, hu, hr⟩ := hc j _ (List.getElem?_eq_getElem (show j < cs.length by omega))
      exact ⟨u, hu, fun y hy => by rw [List.getElem?_eq_getElem (show j < cs.length by omega)] at hy; cases hy; exact hr⟩
    refine wp_val (u := .agg ⟨(List.range d.sz).map fun j => (w.cell? ⟨b, of + j, none⟩).getD undef⟩) (w' := w) ?_ (hK _ (.c (.agg (by simp; omega) fun j y hy => ?_)))
    · simp only [execOp, ho, hv, Sem.run_bind, Result.andThen_ok, Sem.run_pure]
      rw [run_loadAg ht hd w b of _ hlen]
      · rfl
      · intro j u hj
        simp only [List.getElem?_map] at hj
        obtain ⟨k, hk, rfl⟩ := Option.map_eq_some_iff.1 hj
        have hjs : j < d.sz := by have := (List.getElem?_eq_some_iff.1 hk).1; simpa using this
        simp [hjs] at hk; subst hk
        obtain ⟨u, hu, _⟩ := hcs j hjs
        rw [hu]; rfl
    · rw [List.getElem?_take] at hy
      split at hy
      · rename_i hjs
        obtain ⟨u, hu, hr⟩ := hcs j hjs
        rw [show ((List.range d.sz).map fun j => (w.cell? ⟨b, of + j, none⟩).getD undef).getD j undef = u by simp [List.getD, hjs, hu]]
        exact hr y hy
      · cases hy
  | loadE hx hm hn hk ht hd hy =>
    rename_i t x i n sz k off e xs x0 y d
    have hv := h.evR x; rw [hx] at hv
    have hh := hv.el_inv
    obtain ⟨_, b, p, cap, hρ, hv2⟩ := (hh _ _ _ hm).2 hn
    obtain ⟨hl, b', p', cap', hu, hc⟩ := (h.obj i _ hm).arr_cell hk
    rw [hρ] at hu; cases hu
    obtain ⟨u, hu, hr⟩ := hc off y hy
    refine wp_val (u := u) (w' := w) ?_ (hK _ (.c hr))
    simp [execOp, ho, hv2, run_loadS ht hd w b (p + (k * sz + off)) u hu]
  | loadEA hx hm hn hk ht hd hl =>
    rename_i t x i n sz k off e xs x0 d
    have hv := h.evR x; rw [hx] at hv
    have hh := hv.el_inv
    obtain ⟨_, b, p, cap, hρ, hv2⟩ := (hh _ _ _ hm).2 hn
    obtain ⟨hl', b', p', cap', hu, hc⟩ := (h.obj i _ hm).arr_cell hk
    rw [hρ] at hu; cases hu
    have hcs : ∀ j, j < d.sz → ∃ u, w.cell? ⟨b, p + (k * sz + off) + j, none⟩ = some u ∧ ∀ y, x0.cells[off + j]? = some y → Rep w (LL C s.m ρ) u y := by
      intro j hj
      obtain ⟨u, hu, hr⟩ := hc (off + j) _ (List.getElem?_eq_getElem (show off + j < x0.cells.length by omega))
      exact ⟨u, by rw [show p + (k * sz + off) + j = p + (k * sz + (off + j)) by omega]; exact hu, fun y hy => by rw [List.getElem?_eq_getElem (show off + j < x0.cells.length by omega)] at hy; cases hy; exact hr⟩
    have hlen : ((List.range d.sz).map fun j => (w.cell? ⟨b, p + (k * sz + off) + j, none⟩).getD undef).length = d.sz := by simp
    refine wp_val (u := .agg ⟨(List.range d.sz).map fun j => (w.cell? ⟨b, p + (k * sz + off) + j, none⟩).getD undef⟩) (w' := w) ?_ (hK _ (.c (.agg (by simp; omega) fun j y hy => ?_)))
    · simp only [execOp, ho, hv2, Sem.run_bind, Result.andThen_ok, Sem.run_pure]
      rw [run_loadAg ht hd w b (p + (k * sz + off)) _ hlen]
      · rfl
      · intro j u hj
        simp only [List.getElem?_map] at hj
        obtain ⟨q, hq, rfl⟩ := Option.map_eq_some_iff.1 hj
        have hjs : j < d.sz := by have := (List.getElem?_eq_some_iff.1 hq).1; simpa using this
        simp [hjs] at hq; subst hq
        obtain ⟨u, hu, _⟩ := hcs j hjs
        rw [hu]; rfl
    · rw [List.getElem?_take] at hy
      split at hy
      · rename_i hjs
        rw [List.getElem?_drop] at hy
        obtain ⟨u, hu, hr⟩ := hcs j hjs
        rw [show ((List.range d.sz).map fun j => (w.cell? ⟨b, p + (k * sz + off) + j, none⟩).getD undef).getD j undef = u by simp [List.getD, hjs, hu]]
        exact hr y hy
      · cases hy
  | fldL hx hm ht hd hf h2 h0 =>
    rename_i t x f i off cells d fd fs fld
    have hv := h.evR x; rw [hx] at hv
    have hh := hv.loc_inv
    obtain ⟨b, hρ, hv⟩ := hh _ hm
    refine wp_val (u := .pointer (some ⟨b, off + fld.offset, none⟩)) (w' := w) ?_ (hK _ (.loc fun cells' hm' => ⟨b, hρ, rfl⟩))
    simp [execOp, ho, hv, run_fieldAt' ht hd hf h2 h0]
  | fldC hx ht hd hf h2 h0 hl =>
    rename_i t x f cs d fd fs fld
    have hv := h.evR x; rw [hx] at hv
    obtain ⟨b, of, hv, hb, h0', hc⟩ := hv.c_inv.ad_inv
    refine wp_val (u := .pointer (some ⟨b, of + fld.offset, none⟩)) (w' := w) ?_ (hK _ (.c (Rep.ad_mk hb (by simp; omega) fun j y hy => ?_)))
    · simp [execOp, ho, hv, run_fieldAt' ht hd hf h2 h0]
    · rw [List.getElem?_drop] at hy
      rw [Nat.add_assoc]; exact hc _ y hy
  | fldE hx hm hn ht hd hf h2 h0 =>
    rename_i t x f i n sz k off e xs d fd fs fld
    have hv := h.evR x; rw [hx] at hv
    have hh := hv.el_inv
    obtain ⟨_, b, p, cap, hρ, hv⟩ := (hh _ _ _ hm).2 hn
    refine wp_val (u := .pointer (some ⟨b, p + (k * sz + off) + fld.offset, none⟩)) (w' := w) ?_ (hK _ (.el fun sz' e' xs' hm' => ?_))
    · simp [execOp, ho, hv, run_fieldAt' ht hd hf h2 h0]
    · rw [hm] at hm'; cases hm'
      exact ⟨by omega, fun _ => ⟨rfl, b, p, cap, hρ, by rw [show p + (k * sz + off) + fld.offset = p + (k * sz + (off + fld.offset)) by omega]⟩⟩
  | idxC hx hi h0 hy ht hd he hs =>
    rename_i t x ix sz e xs k n y d de
    have hv := h.evR x; rw [hx] at hv
    have hiv := ev_int h hi
    obtain ⟨a', cap, hv, hcap, hmax, hsz, hc, hlen⟩ := hv.c_inv.sl_inv
    have hlt : n.toNat < xs.length := (List.getElem?_eq_some_iff.1 hy).1
    obtain ⟨b, of, rfl, hb, hc⟩ := hc (by omega)
    refine wp_val (u := .pointer (some ⟨b, of + n.toNat * sz, none⟩)) (w' := w) ?_ (hK _ (.c (Rep.ad_mk hb (by rw [hlen _ y hy]; exact hsz) fun j z hz => ?_)))
    · simp [execOp, ho, hv, hiv, run_indexAt' ht hd he w b of xs.length cap k n h0 (by omega), hs]
    · rw [Nat.add_assoc]; exact hc _ y hy j z hz
  | idxM hx hm hn hi h0 hlt ht hd he hs =>
    rename_i t x ix i n0 sz e e' xs k n d de
    have hv := h.evR x; rw [hx] at hv
    have hiv := ev_int h hi
    have hh := hv.ms_inv
    have hv := (hh _ _ _ hm).2 hn
    have hlt' : n.toNat < xs.length := by omega
    obtain ⟨hl, b, p, cap, hu, hc⟩ := (h.obj i _ hm).arr_cell (List.getElem?_eq_getElem hlt')
    rw [hu] at hv
    refine wp_val (u := .pointer (some ⟨b, p + n.toNat * sz, none⟩)) (w' := w) ?_ (hK _ (.el fun sz' e'' xs' hm' => ?_))
    · simp [execOp, ho, hv, hiv, run_indexAt' ht hd he w b p xs.length cap k n h0 (by omega), hs]
    · rw [hm] at hm'; cases hm'
      exact ⟨by omega, fun _ => ⟨rfl, b, p, cap, by rw [hu, hn], rfl⟩⟩
  | _ => rcases hop with ⟨_, _, h⟩ | ⟨_, _, _, h⟩ | ⟨_, _, _, h⟩ <;> cases h
end
end Go.AM

/- The abstract machine, part 9: the other value operations, sound; all of them in one law. It speaks of whatever program. -/
namespace Go.AM
open Go Go.RowKit
set_option linter.unusedVariables false
set_option linter.unusedSimpArgs false

section
variable {E : Env} {C : Ctx} {s : AS} {ρ : Nat → Value} {a : Act} {w : World} {K : Act → World → Prop} {Q : Exit → Act → World → Prop}

theorem repV {L : Nat → Prop} {m : Nat → Option Ob} (w : World) (u : Value) : RepA w L ρ m u (.c (.v u)) := .c (.v u)

theorem run_equalIn_bool (d : Nat) {t : TypeId} (p q : Bool) (hu : E.P.underlying t = some .bool) : (Op.equalIn (d + 1) t (.bool p) (.bool q)).run E.P w = .ok (p == q) w := by
  simp [Op.equalIn, run_underlying hu]
theorem run_eqlB {t : TypeId} (p q : Bool) (hu : E.P.underlying t = some .bool) : (binOp .eql t (.bool p) (.bool q)).run E.P w = .ok (.bool (p == q)) w := by
  have e : binOp .eql t (.bool p) (.bool q) = (do pure (.bool (← Op.equal t (.bool p) (.bool q)))) := rfl
  rw [e]
  simp only [Sem.run_bind, Op.equal, Op.maxDepth]
  rw [run_equalIn_bool 9999 p q hu]; rfl
theorem run_neqB {t : TypeId} (p q : Bool) (hu : E.P.underlying t = some .bool) : (binOp .neq t (.bool p) (.bool q)).run E.P w = .ok (.bool !(p == q)) w := by
  have e : binOp .neq t (.bool p) (.bool q) = (do pure (.bool (!(← Op.equal t (.bool p) (.bool q))))) := rfl
  rw [e]
  simp only [Sem.run_bind, Op.equal, Op.maxDepth]
  rw [run_equalIn_bool 9999 p q hu]; rfl

theorem StepV.wp_plain (h : STr C s ρ a w) {op : Op} {v : AV} {R : List Nat} (hs : StepV E s.m s.ev op v R) {o : Oper} (ho : o.op = op)
    (hop : (∃ x, op = .move x) ∨ (∃ x, op = .assign x) ∨ (∃ c x y, op = .pick c x y) ∨ (∃ t x i, op = .index t x i) ∨ (∃ b t x y u, op = .binOp b t x y u) ∨ (∃ b t x, op = .unOp b t x) ∨ (∃ t u x, op = .convert t u x) ∨ (∃ x j, op = .extract x j) ∨ (∃ f x y, op = .makeFunc f x y) ∨ (∃ x t, op = .call { callee := .builtin .len, args := #[x], argTypes := #[t] }))
    (hK : ∀ u w', Keep (fun _ => False) w w' → RepA w' (LL C s.m ρ) ρ s.m u v → K (a.put o.dst u) w') : o.wp E.P a w K Q := by
  have hk : ∀ u, RepA w (LL C s.m ρ) ρ s.m u v → K (a.put o.dst u) w := fun u hu => hK u w (Keep.refl _ w) hu
  cases hs with
  | move x => exact wp_val (u := a.eval x) (w' := w) (by simp [execOp, ho]) (hk _ (h.evR x))
  | assign x => exact wp_val (u := a.eval x) (w' := w) (by simp [execOp, ho]) (hk _ (h.evR x))
  | pickT hc =>
    rename_i c x y
    exact wp_val (u := a.eval x) (w' := w) (by simp [execOp, ho, ev_int h hc, asBool]) (hk _ (h.evR x))
  | pickF hc =>
    rename_i c x y
    exact wp_val (u := a.eval y) (w' := w) (by simp [execOp, ho, ev_int h hc, asBool]) (hk _ (h.evR y))
  | idxS hx hi h0 hc ht hd =>
    rename_i t x ix b k n d c
    have hu := Env.und ht; rw [hd] at hu
    have e : (if 0 ≤ n then b[n.toNat]? else none) = some c := by rw [if_pos h0]; exact hc
    refine wp_val (u := .int .u8 c.toNat) (w' := w) ?_ (hk _ (repV w _))
    simp [execOp, ho, ev_int h hx, ev_int h hi, Instr.index, asIntOf, run_underlying hu, e]
  | lenC hx ht hd =>
    rename_i t x sz e xs d
    have hu := Env.und ht; rw [hd] at hu
    have hv := h.evR x; rw [hx] at hv
    obtain ⟨a', cap, hv, _⟩ := hv.c_inv.sl_inv
    refine wp_val (u := .int .i64 xs.length) (w' := w) ?_ (hk _ (repV w _))
    simp [execOp, ho, resolve, invoke, builtin, hv, Builtin.len_, run_underlying hu, goInt]
  | lenV hx ht hd =>
    rename_i t x a' n c e d
    have hu := Env.und ht; rw [hd] at hu
    refine wp_val (u := .int .i64 n) (w' := w) ?_ (hk _ (repV w _))
    simp [execOp, ho, resolve, invoke, builtin, ev_int h hx, Builtin.len_, run_underlying hu, goInt]
  | lenM hx hm hn ht hd =>
    rename_i t x i n sz e e' xs d
    have hu := Env.und ht; rw [hd] at hu
    have hv := h.evR x; rw [hx] at hv
    have hv2 := (hv.ms_inv _ _ _ hm).2 hn
    obtain ⟨_, vs, hown, _⟩ := h.obj _ _ hm
    have hsl : ∃ p c, ρ i = .slice p xs.length c := by
      rcases hown.2 with ⟨e1, e2⟩ | ⟨g, o, cap, cur, e1, _⟩
      · exact ⟨none, 0, by rw [e1, e2]⟩
      · exact ⟨_, _, e1⟩
    obtain ⟨p, c, hp⟩ := hsl
    refine wp_val (u := .int .i64 n) (w' := w) ?_ (hk _ (repV w _))
    simp [execOp, ho, resolve, invoke, builtin, hv2, hp, Builtin.len_, run_underlying hu, goInt, hn]
  | lenS hx ht hd =>
    rename_i t x b d
    have hu := Env.und ht; rw [hd] at hu
    refine wp_val (u := .int .i64 b.size) (w' := w) ?_ (hk _ (repV w _))
    simp [execOp, ho, resolve, invoke, builtin, ev_int h hx, Builtin.len_, run_underlying hu, goInt]
  | binI hx hy hr =>
    refine wp_val (w' := w) ?_ (hk _ (repV w _))
    simp [execOp, ho, ev_int h hx, ev_int h hy, guard_int, run_intV hr]
  | binR hx hy hb =>
    rename_i t u x y k p q
    have hq : ¬ q = 0 := by simpa using hb
    refine wp_val (u := .int k (p.tmod q)) (w' := w) ?_ (hk _ (repV w _))
    simp [execOp, ho, ev_int h hx, ev_int h hy, guard_int, binOp, Op.intDiv, hq]
  | binS hx hy hr =>
    refine wp_val (w' := w) ?_ (hk _ (repV w _))
    simp [execOp, ho, ev_int h hx, ev_int h hy, guard_str, run_strV hr]
  | binSA hx hy hl =>
    rename_i t u x y p q
    refine wp_val (u := .string (p ++ q)) (w' := w) ?_ (hk _ (repV w _))
    have : ¬ ((p.size : Int) + q.size > IntKind.i64.max) := by
      have : IntKind.i64.max = 9223372036854775807 := by decide
      rw [this]; omega
    simp [execOp, ho, ev_int h hx, ev_int h hy, guard_str, binOp, Op.stringOp]
    omega
  | binBE hx hy ht hd =>
    rename_i t u x y p q d
    have hu := Env.und ht; rw [hd] at hu
    refine wp_val (u := .bool (p == q)) (w' := w) ?_ (hk _ (repV w _))
    simp only [execOp, ho, ev_int h hx, ev_int h hy, Sem.run_bind, guard_bool, Result.andThen_ok, run_eqlB p q hu, Sem.run_pure]
  | binBN hx hy ht hd =>
    rename_i t u x y p q d
    have hu := Env.und ht; rw [hd] at hu
    refine wp_val (u := .bool !(p == q)) (w' := w) ?_ (hk _ (repV w _))
    simp only [execOp, ho, ev_int h hx, ev_int h hy, Sem.run_bind, guard_bool, Result.andThen_ok, run_neqB p q hu, Sem.run_pure]
  | binF hx hy ha hb hr =>
    rename_i op t u x y cx cy p q r
    obtain ⟨p', hp, hp'⟩ := ev_fl h hx ha
    obtain ⟨q', hq, hq'⟩ := ev_fl h hy hb
    rw [← flV_rel hp' hq'] at hr
    refine wp_val (u := .bool r) (w' := w) ?_ (hk _ (repV w _))
    simp [execOp, ho, hp, hq, guard_fl, run_flV hr]
  | binFA hx hy ha hb =>
    rename_i t u x y cx cy p q
    obtain ⟨p', hp, hp'⟩ := ev_fl h hx ha
    obtain ⟨q', hq, hq'⟩ := ev_fl h hy hb
    obtain ⟨r, w', hr, hrel, hw⟩ := hp'.add_run E.P (t := t) hq' w
    refine wp_val (u := .float .f64 r) (w' := w') ?_ (hK _ w' ?_ (.c (.fl hrel)))
    · simp [execOp, ho, hp, hq, guard_fl, hr]
    · rcases hw with rfl | rfl
      · exact Keep.refl _ _
      · exact Keep.drew _ _
  | unN hx =>
    rename_i t x b
    refine wp_val (u := .bool !b) (w' := w) ?_ (hk _ (repV w _))
    simp [execOp, ho, ev_int h hx, Op.unary]
  | unG hx =>
    rename_i t x k n
    refine wp_val (u := .int k (k.wrap (0 - n))) (w' := w) ?_ (hk _ (repV w _))
    simp [execOp, ho, ev_int h hx, Op.unary, Op.intArith]
  | conv hx ht hu hd =>
    rename_i t u x k k' n d d'
    have hu1 := Env.und ht
    have hu2 := Env.und hu; rw [hd] at hu2
    refine wp_val (u := .int k' (k'.wrap n)) (w' := w) ?_ (hk _ (repV w _))
    simp [execOp, ho, ev_int h hx, convert, run_underlying hu1, run_underlying hu2, Conv.intToInt]
  | convF hx ht hu hd =>
    rename_i t u x k n d d'
    have hu1 := Env.und ht
    have hu2 := Env.und hu; rw [hd] at hu2
    refine wp_val (u := .float .f64 (FloatKind.f64.nearest n)) (w' := w) ?_ (hk _ (.c (.fl (flRel.refl _))))
    simp [execOp, ho, ev_int h hx, convert, run_underlying hu1, run_underlying hu2, Conv.intToFloat]
  | convB hx ht hd he hde hu hd' =>
    rename_i t u x e bs d de d'
    have hu1 := Env.und ht; rw [hd] at hu1
    have hu2 := Env.und hu; rw [hd'] at hu2
    have hu3 := Env.und he; rw [hde] at hu3
    have hv := h.evR x; rw [hx] at hv
    obtain ⟨a', cap, hv, _, _, _, hc, _⟩ := hv.c_inv.sl_inv
    simp only [List.length_map] at hv
    rcases Nat.eq_zero_or_pos bs.length with h0 | h0
    · have : bs = [] := List.eq_nil_of_length_eq_zero h0
      subst this
      refine wp_val (u := .string (strOfNums [])) (w' := w) ?_ (hk _ (repV w _))
      cases a' with
      | none => simp [execOp, ho, hv, run_convert_bytes_nil w t e hu1 hu3 0 cap u hu2]; rfl
      | some ad =>
        obtain ⟨ab, ao, asp⟩ := ad
        have := run_convert_bytes_string w t u e (some ⟨ab, ao, asp⟩) 0 cap hu1 hu3 hu2
        have h2 := run_bytesToString (P := E.P) w ⟨ab, ao, asp⟩ 0 cap [] (by simp [loadCells, loadCellsFrom])
        simp only [execOp, ho, hv, List.length_nil, Sem.run_bind, this, h2]
        simp [strOfNums, ByteArray.empty, ByteArray.emptyWithCapacity]
        rfl
    · obtain ⟨b, of, rfl, hb, hc⟩ := hc (by simpa using h0)
      refine wp_val (u := .string (strOfNums bs)) (w' := w) ?_ (hk _ (repV w _))
      have := run_convert_bytes_arg (P := E.P) w t e hu1 hu3 b of bs.length cap bs rfl (fun i hi => by
        obtain ⟨u, hu, hr⟩ := hc i (.v (.int .u8 (bs.getD i 0))) (by simp [List.getD, List.getElem?_eq_getElem hi]) 0 _ rfl
        rw [hr.v_inv] at hu
        simpa using hu) u hu2
      simp [execOp, ho, hv, this]
  | extract hx hy =>
    rename_i x j xs
    have hv := h.evR x; rw [hx] at hv
    obtain ⟨vs, hv, hl, hc⟩ := hv.tup_inv
    have hj : j < vs.length := by rw [hl]; exact (List.getElem?_eq_some_iff.1 hy).1
    refine wp_val (u := vs.getD j undef) (w' := w) ?_ (hk _ (hc j v hy))
    simp [execOp, ho, hv, Instr.extract, List.getD, List.getElem?_eq_getElem hj]
  | mkfun hc =>
    rename_i fn captured us
    refine wp_val (u := .func fn #[] ⟨us⟩) (w' := w) ?_ (hk _ (repV w _))
    have : captured.map a.eval = ⟨us⟩ := by
      apply Array.ext'
      simp only [Array.toList_map]
      apply List.ext_getElem?
      intro j
      have hj := congrArg (fun l : List AV => l[j]?) hc
      simp only [List.getElem?_map] at hj ⊢
      cases hcj : captured.toList[j]? with
      | none => rw [hcj] at hj; cases hu : us[j]? with
        | none => rfl
        | some u => rw [hu] at hj; cases hj
      | some x =>
        rw [hcj] at hj
        cases hu : us[j]? with
        | none => rw [hu] at hj; cases hj
        | some u =>
          rw [hu] at hj
          simp at hj
          simp [ev_int h hj]
    simp [execOp, ho, Instr.makeFunc, this]
  | mkfunC hc =>
    rename_i f captured cs
    refine wp_val (u := .func (.func f) #[] ⟨captured.toList.map a.eval⟩) (w' := w) ?_ (hk _ (.c (.fn (by have := hc.1; simpa using this) fun j y hy => ?_)))
    · have : captured.map a.eval = ⟨captured.toList.map a.eval⟩ := by apply Array.ext'; simp
      simp [execOp, ho, Instr.makeFunc, this]
    · have hjl : j < captured.toList.length := by have h1 := hc.1; have h2 := (List.getElem?_eq_some_iff.1 hy).1; simp at h1 ⊢; omega
      have := (hc.2 j (s.ev captured.toList[j]) y (by rw [List.getElem?_map, List.getElem?_eq_getElem hjl]; rfl) hy).rep (ρ := ρ) (m := s.m) _ (h.evR _)
      simpa [List.getD, List.getElem?_eq_getElem hjl] using this
  | _ => rcases hop with ⟨_, h⟩ | ⟨_, h⟩ | ⟨_, _, _, h⟩ | ⟨_, _, _, h⟩ | ⟨_, _, _, _, _, h⟩ | ⟨_, _, _, h⟩ | ⟨_, _, _, h⟩ | ⟨_, _, h⟩ | ⟨_, _, _, h⟩ | ⟨_, _, h⟩ <;> cases h
end
end Go.AM

/- The abstract machine, part 10: composites, slices, calls; all value operations in one law. It speaks of whatever program. -/
namespace Go.AM
open Go Go.RowKit
set_option linter.unusedVariables false
set_option linter.unusedSimpArgs false

section
variable {E : Env} {C : Ctx} {s : AS} {ρ : Nat → Value} {a : Act} {w : World} {K : Act → World → Prop} {Q : Exit → Act → World → Prop}

/-- Cells by cells: values and what they read as. -/
def RelL (w : World) (L : Nat → Prop) (ρ : Nat → Value) (m : Nat → Option Ob) (vs : Array Value) (ys : List AV) : Prop :=
  vs.size = ys.length ∧ ∀ (j : Nat) (y : AV), ys[j]? = some y → RepA w L ρ m (vs.getD j undef) y

theorem foldl_zip : ∀ (us : List Value) (off k : Nat) (vs : Array Value), (us.zipIdx k).foldl (fun cs (x : Value × Nat) => cs.setIfInBounds (off + x.2) x.1) vs =
    ⟨vs.toList.take (off + k) ++ (us.take (vs.size - (off + k))) ++ vs.toList.drop (off + k + us.length)⟩
  | [], off, k, vs => by apply Array.ext'; simp
  | u :: us, off, k, vs => by
    simp only [List.zipIdx_cons, List.foldl_cons]
    rw [foldl_zip us off (k + 1)]
    apply Array.ext'
    simp only [Array.toList_setIfInBounds, Array.size_setIfInBounds, List.length_cons]
    by_cases hlt : off + k < vs.size
    · rw [show vs.size - (off + k) = (vs.size - (off + (k + 1))) + 1 by omega]
      rw [List.take_succ_cons]
      have h1 : (vs.toList.set (off + k) u).take (off + (k + 1)) = vs.toList.take (off + k) ++ [u] := by
        apply List.ext_getElem?
        intro j
        simp only [List.getElem?_take, List.getElem?_set, List.getElem?_append, List.length_take, Array.length_toList]
        by_cases hj : j < off + k
        · rw [if_pos (by omega), if_neg (by omega), if_pos (by omega), if_pos hj]
        · by_cases hj' : j = off + k
          · subst hj'
            rw [if_pos (show off + k < off + (k + 1) by omega)]
            simp [hlt, show min (off + k) vs.size = off + k by omega]
          · rw [if_neg (by omega), if_neg (by omega)]
            rw [List.getElem?_eq_none]; simp; omega
      have h2 : (vs.toList.set (off + k) u).drop (off + (k + 1) + us.length) = vs.toList.drop (off + k + (us.length + 1)) := by
        rw [List.drop_set_of_lt (by omega)]
        congr 1; omega
      rw [h1, h2]; simp
    · have h0 : vs.size - (off + k) = 0 := by omega
      have h0' : vs.size - (off + (k + 1)) = 0 := by omega
      rw [h0, h0', List.set_eq_of_length_le (by simpa using Nat.le_of_not_lt hlt)]
      simp only [List.take_zero, List.append_nil]
      rw [List.take_of_length_le (by simp; omega), List.take_of_length_le (by simp; omega), List.drop_of_length_le (by simp; omega), List.drop_of_length_le (by simp; omega)]

theorem relL_set {L : Nat → Prop} {m : Nat → Option Ob} {vs us : Array Value} {cells ys : List AV} {off : Nat} (h : RelL w L ρ m vs cells) (hu : RelL w L ρ m us ys) (hb : off + ys.length ≤ cells.length) :
    RelL w L ρ m ((us.zipIdx).foldl (fun cs (x : Value × Nat) => cs.setIfInBounds (off + x.2) x.1) vs) (setMany cells off ys) := by
  have hf : (us.zipIdx).foldl (fun cs (x : Value × Nat) => cs.setIfInBounds (off + x.2) x.1) vs = ⟨vs.toList.take off ++ us.toList ++ vs.toList.drop (off + us.size)⟩ := by
    rw [← Array.foldl_toList, Array.toList_zipIdx, foldl_zip us.toList off 0 vs]
    apply Array.ext'
    simp only [Nat.add_zero, Array.length_toList]
    have hus : us.toList.take (vs.size - off) = us.toList := List.take_of_length_le (by rw [Array.length_toList]; have := h.1; have := hu.1; omega)
    rw [hus]
  rw [hf]
  have h1 := h.1; have h2 := hu.1
  refine ⟨by simp [setMany]; omega, fun j y hy => ?_⟩
  unfold setMany at hy
  have e : ∀ l : List Value, (⟨l⟩ : Array Value).getD j undef = l.getD j undef := fun l => by simp [Array.getD_eq_getD_getElem?, List.getD]
  rw [e]
  simp only [List.getD, List.getElem?_append, List.length_append, List.length_take, Array.length_toList] at hy ⊢
  rw [show min off vs.size = off by omega]
  rw [show min off cells.length = off by omega] at hy
  by_cases hj : j < off
  · rw [if_pos (by omega), if_pos hj] at hy ⊢
    rw [List.getElem?_take, if_pos hj] at hy ⊢
    have := h.2 j y hy
    simpa [Array.getD_eq_getD_getElem?] using this
  · by_cases hj2 : j < off + ys.length
    · rw [if_pos (by omega), if_neg hj] at hy ⊢
      have := hu.2 (j - off) y hy
      simpa [Array.getD_eq_getD_getElem?] using this
    · rw [if_neg (by omega)] at hy ⊢
      rw [List.getElem?_drop] at hy ⊢
      have := h.2 j y (by rw [← hy]; congr 1; omega)
      rw [show off + us.size + (j - (off + us.size)) = j by omega]
      simpa [Array.getD_eq_getD_getElem?] using this

theorem fill_sound (h : STr C s ρ a w) {fs : Array Field} {cells out : List AV} {parts : List (Nat × AV)} {R : List Nat} (hf : Fill E s.m fs cells parts out R) :
    ∀ (vs : Array Value) (ps : List (Nat × Value)), RelL w (LL C s.m ρ) ρ s.m vs cells → ps.length = parts.length →
      (∀ (j : Nat) (p : Nat × Value) (q : Nat × AV), ps[j]? = some p → parts[j]? = some q → p.1 = q.1 ∧ RepA w (LL C s.m ρ) ρ s.m p.2 q.2) →
      ∃ out', Instr.fill (fun i => (fs[i]?).bind fun f => (E.Ty f.type).map fun d => (f.offset, d.sz)) vs ps = some out' ∧ RelL w (LL C s.m ρ) ρ s.m out' out := by
  induction hf with
  | nil cells =>
    intro vs ps hr hl _
    simp at hl; subst hl
    exact ⟨vs, rfl, hr⟩
  | cons hfi ht hc hl hb hrest ih =>
    rename_i cells i v ys rest out fld fd R R'
    intro vs ps hr hlen hps
    cases ps with
    | nil => simp at hlen
    | cons p ps =>
      obtain ⟨pi, pv⟩ := p
      obtain ⟨e, hpv⟩ := hps 0 (pi, pv) (i, v) rfl rfl
      simp only at e hpv; subst e
      obtain ⟨hcs, hcr⟩ := Cells.sound h hpv hc
      have hsz : vs.size = cells.length := hr.1
      obtain ⟨out', ho, hor⟩ := ih (pv.cells.zipIdx.foldl (fun cs (x : Value × Nat) => cs.setIfInBounds (fld.offset + x.2) x.1) vs) ps (relL_set hr ⟨hcs, hcr⟩ (by omega)) (by simpa using hlen)
        (fun j p q hp hq => hps (j + 1) p q (by simpa using hp) (by simpa using hq))
      refine ⟨out', ?_, hor⟩
      unfold Instr.fill
      simp only [hfi, ht, Option.bind_some, Option.map_some]
      rw [if_neg]
      · exact ho
      · simp only [Bool.or_eq_true, decide_eq_true_eq, not_or]
        exact ⟨by omega, by omega⟩
end
end Go.AM

/- The abstract machine, part 11: composites, slices, calls, sound; all value operations in one law. It speaks of whatever program. -/
namespace Go.AM
open Go Go.RowKit
set_option linter.unusedVariables false
set_option linter.unusedSimpArgs false

section
variable {E : Env} {C : Ctx} {s : AS} {ρ : Nat → Value} {a : Act} {w : World} {K : Act → World → Prop} {Q : Exit → Act → World → Prop}

theorem places_of (fs : List Field) (ha : fs.all (fun f => (E.Ty f.type).isSome) = true) :
    fs.mapM (fun f => (E.P.info? f.type).map fun i => (f.offset, i.size)) = some (fs.map fun f => (f.offset, ((E.Ty f.type).map TD.sz).getD 0)) := by
  induction fs with
  | nil => rfl
  | cons f fs ih =>
    simp only [List.all_cons, Bool.and_eq_true] at ha
    obtain ⟨d, hd⟩ := Option.isSome_iff_exists.1 ha.1
    obtain ⟨_, i, hi, hs, _⟩ := E.ok _ d hd
    simp [List.mapM_cons, hi, ih ha.2, hd, hs]

theorem StepV.wp_build (h : STr C s ρ a w) {t : TypeId} {parts : Array (Nat × Operand)} {d : TD} {fs : Array Field} {out : List AV} {R : List Nat} (ht : E.Ty t = some d) (hd : d.desc = .struct fs) (ha : fs.toList.all (fun f => (E.Ty f.type).isSome) = true)
    (hf : Fill E s.m fs (d.zero.map fun z => .c (.v z)) (parts.toList.map fun p => (p.1, s.ev p.2)) out R) {o : Oper} (ho : o.op = .build t parts)
    (hK : ∀ u, RepA w (LL C s.m ρ) ρ s.m u (.agg out) → K (a.put o.dst u) w) : o.wp E.P a w K Q := by
  obtain ⟨hu, i, hi, hs, hb, z, hz, hzc⟩ := E.ok t d ht
  rw [hd] at hu
  have hzr : RelL w (LL C s.m ρ) ρ s.m z.cells (d.zero.map fun z => .c (.v z)) := by
    refine ⟨by rw [List.length_map, ← hzc]; simp, fun j y hy => ?_⟩
    simp only [List.getElem?_map] at hy
    obtain ⟨q, hq, rfl⟩ := Option.map_eq_some_iff.1 hy
    rw [← hzc] at hq
    have : z.cells.getD j undef = q := by simp [Array.getD_eq_getD_getElem?] at hq ⊢; rw [hq]; rfl
    rw [this]; exact .c (.v q)
  obtain ⟨out', hfill, hr⟩ := fill_sound h hf z.cells (parts.toList.map fun p => (p.1, a.eval p.2)) hzr (by simp) (fun j p q hp hq => by
    simp only [List.getElem?_map] at hp hq
    obtain ⟨x, hx, rfl⟩ := Option.map_eq_some_iff.1 hp
    rw [hx] at hq; simp at hq; subst hq
    exact ⟨rfl, h.evR _⟩)
  have hb' : E.P.built t (parts.map fun p => (p.1, a.eval p.2)).toList = some out' := by
    unfold Program.built
    simp only [hi, hu, hz, places_of fs.toList ha, Array.toList_map]
    rw [← hfill]
    congr 1
    funext j
    simp only [List.getElem?_toArray, List.getElem?_map, Array.getElem?_toList]
    cases hj : fs[j]? with
    | none => rfl
    | some f =>
      obtain ⟨d', hd'⟩ := Option.isSome_iff_exists.1 (List.all_eq_true.1 ha f (by simpa using Array.mem_of_getElem? hj))
      simp [hd']
  have hrun := run_build (P := E.P) w t (parts.map fun p => (p.1, a.eval p.2)) out' hb'
  refine wp_val (u := .agg out') (w' := w) ?_ (hK _ ?_)
  · simp only [execOp, ho, Sem.run_bind, hrun, Result.andThen_ok, Sem.run_pure]
  · obtain ⟨l⟩ := out'
    refine .agg (by simpa using hr.1) fun j y hy => ?_
    have := hr.2 j y hy
    simpa [Array.getD_eq_getD_getElem?, List.getD] using this

theorem StepV.wp_slc (h : STr C s ρ a w) {t : TypeId} {x : Operand} {lo hi : Option Operand} {sz e l hh : Nat} {xs : List CV} {d de : TD} (hx : s.ev x = .c (.sl sz xs)) (ht : E.Ty t = some d) (hd : d.desc = .slice e) (he : E.Ty e = some de) (hs : de.sz = sz)
    (hlo : match lo with | some o => ∃ k n, s.ev o = .c (.v (.int k n)) ∧ 0 ≤ n ∧ n.toNat = l | none => l = 0)
    (hhi : match hi with | some o => ∃ k n, s.ev o = .c (.v (.int k n)) ∧ 0 ≤ n ∧ n.toNat = hh | none => hh = xs.length) (hlh : l ≤ hh) (hhl : hh ≤ xs.length)
    {o : Oper} (ho : o.op = .slice t x lo hi none) (hK : ∀ u, RepA w (LL C s.m ρ) ρ s.m u (.c (.sl sz ((xs.drop l).take (hh - l)))) → K (a.put o.dst u) w) : o.wp E.P a w K Q := by
  have hu := Env.und ht; rw [hd] at hu
  have hv := h.evR x; rw [hx] at hv
  obtain ⟨a', cap, hv, hcap, hmax, hsz, hc, hlen⟩ := hv.c_inv.sl_inv
  have hbounds : (Instr.sliceBounds true xs.length cap (lo.map a.eval) (hi.map a.eval) none).run E.P w = .ok (l, hh, cap) w := by
    unfold Instr.sliceBounds
    cases lo with
    | none =>
      simp only at hlo; subst hlo
      cases hi with
      | none => simp only at hhi; subst hhi; simp
      | some q =>
        obtain ⟨k, n, hq, h0, rfl⟩ := hhi
        have hqv := ev_int h hq
        simp [hqv, Instr.sliceBound, asIntOf, h0, show n ≤ (cap : Int) by omega]
    | some p =>
      obtain ⟨k, n, hp, h0, rfl⟩ := hlo
      have hpv := ev_int h hp
      cases hi with
      | none => simp only at hhi; subst hhi; simp [hpv, Instr.sliceBound, asIntOf, h0, show n ≤ (xs.length : Int) by omega]
      | some q =>
        obtain ⟨k', n', hq, h0', rfl⟩ := hhi
        have hqv := ev_int h hq
        simp [hqv, hpv, Instr.sliceBound, asIntOf, h0, h0', show n' ≤ (cap : Int) by omega, show n ≤ n' by omega]
        intro hlt; omega
  have hsl : ∃ p, (Instr.slice t (.slice a' xs.length cap) (lo.map a.eval) (hi.map a.eval) none).run E.P w = .ok (.slice p (hh - l) (cap - l)) w ∧
      (∀ b of, a' = some ⟨b, of, none⟩ → p = some ⟨b, if cap = l then of else of + l * sz, none⟩) := by
    refine ⟨if cap = l then a' else a'.map (·.add (l * sz)), ?_, fun b of e => ?_⟩
    · simp only [Instr.slice, Sem.run_bind, run_underlying hu, Result.andThen_ok, hbounds, Env.size he, hs, Sem.run_pure]
    · subst e
      split
      · rfl
      · simp [add_lit']
  obtain ⟨p, hrun, hp⟩ := hsl
  have hlen2 : ((xs.drop l).take (hh - l)).length = hh - l := by simp; omega
  refine wp_val (u := .slice p (hh - l) (cap - l)) (w' := w) ?_ (hK _ (.c (Rep.sl_mk (by rw [hlen2]) (by omega) (by omega) hsz (fun h0 => ?_) fun i y hy => ?_)))
  · have hev : lo.map a.eval = lo.map a.eval := rfl
    simp only [execOp, ho, hv, Sem.run_bind, Option.map_none]
    have : (Instr.sliceAt t (.slice a' xs.length cap) (lo.map a.eval) (hi.map a.eval) none).run E.P w = .ok (.slice p (hh - l) (cap - l)) w := by
      simp only [Instr.sliceAt, Sem.run_bind, run_underlying hu, Result.andThen_ok]
      exact hrun
    rw [this]; rfl
  · rw [hlen2] at h0
    obtain ⟨b, of, rfl, hb, hc⟩ := hc (by omega)
    refine ⟨b, _, hp b of rfl, hb, fun i y hi j z hz => ?_⟩
    rw [List.getElem?_take] at hi
    split at hi
    · rw [List.getElem?_drop] at hi
      obtain ⟨u, hu, hr⟩ := hc (l + i) y hi j z hz
      refine ⟨u, ?_, hr⟩
      rw [if_neg (by omega), ← hu]
      congr 2
      rw [Nat.add_mul]; omega
    · cases hi
  · rw [List.getElem?_take] at hy
    split at hy
    · rw [List.getElem?_drop] at hy; exact hlen _ y hy
    · cases hy

theorem callArgs (h : STr C s ρ a w) {args : Array Operand} {xs : List AV} {us : List Value} {cs : List CV} (hx : args.toList.map s.ev = xs) (ha : ToCs (xs ++ us.map fun u => .c (.v u)) cs) :
    (((args.map a.eval).toList ++ us : List Value)).length = cs.length ∧ ∀ (j : Nat) (y : CV), cs[j]? = some y → Rep w (LL C s.m ρ) (((args.map a.eval).toList ++ us : List Value).getD j undef) y := by
  have hl : (xs ++ us.map fun u => AV.c (.v u)).length = cs.length := ha.1
  subst hx
  refine ⟨by simpa using hl, fun j y hy => ?_⟩
  have hj : j < ((args.toList.map s.ev) ++ us.map fun u => AV.c (.v u)).length := by rw [hl]; exact (List.getElem?_eq_some_iff.1 hy).1
  have hto := ha.2 j _ y (List.getElem?_eq_getElem hj) hy
  refine hto.rep (ρ := ρ) (m := s.m) _ ?_
  by_cases hja : j < args.size
  · have h1 : (((args.toList.map s.ev) ++ us.map fun u => AV.c (.v u))[j]'hj) = s.ev args[j] := by
      rw [List.getElem_append_left (by simpa using hja)]; simp
    have h2 : ((args.map a.eval).toList ++ us).getD j undef = a.eval args[j] := by
      simp [List.getD, List.getElem?_append, hja]
    rw [h1, h2]; exact h.evR _
  · have hju : j - args.size < us.length := by simp at hj; omega
    have h1 : (((args.toList.map s.ev) ++ us.map fun u => AV.c (.v u))[j]'hj) = .c (.v (us[j - args.size])) := by
      rw [List.getElem_append_right (by simpa using Nat.le_of_not_lt hja)]; simp
    have h2 : ((args.map a.eval).toList ++ us).getD j undef = us[j - args.size] := by
      simp [List.getD, List.getElem?_append, hja, List.getElem?_eq_getElem hju]
    rw [h1, h2]; exact .c (.v _)

theorem StepV.wp_call (h : STr C s ρ a w) {callee : Operand} {args : Array Operand} {ats : Array TypeId} {f : FuncId} {us : List Value} {xs : List AV} {cs rs : List CV} (hc : s.ev callee = .c (.v (.func (.func f) #[] ⟨us⟩)))
    (hx : args.toList.map s.ev = xs) (ha : ToCs (xs ++ us.map fun u => .c (.v u)) cs) (hp : Pure E.P f cs rs) {o : Oper} (ho : o.op = .call { callee := .value callee, args := args, argTypes := ats })
    (hK : ∀ u w', Keep (fun _ => False) w w' → RepA w' (LL C s.m ρ) ρ s.m u (resAV rs) → K (a.put o.dst u) w') : o.wp E.P a w K Q := by
  obtain ⟨⟨fn, hf, hb, hname⟩, hp⟩ := hp
  obtain ⟨hl, hr⟩ := callArgs h hx ha
  have hcall := hp w (LL C s.m ρ) _ hl hr (fun b hb => h.live_lt hb)
  have hrun : (execOp a.eval o).run E.P w = .ok (.enter f (⟨(args.map a.eval).toList ++ us⟩)) w := by
    simp only [execOp, ho, resolve, ev_int h hc, Deferred.ofValue, Sem.run_bind, Sem.run_pure, Result.andThen_ok, invoke, callFunc, run_program, hf, hname, hb]
    simp
  unfold Oper.wp
  rw [hrun]
  simp only [Oper.upon]
  refine hcall.mono ?_
  rintro e w' ⟨v, rfl, hv, hk⟩
  exact hK v w' hk hv.repA

theorem Rep.fn_inv {L : Nat → Prop} {v : Value} {f : FuncId} {cs : List CV} (h : Rep w L v (.fn f cs)) : ∃ vs, v = .func (.func f) #[] ⟨vs⟩ ∧ vs.length = cs.length ∧ ∀ (j : Nat) (y : CV), cs[j]? = some y → Rep w L (vs.getD j undef) y := by
  cases h with | fn hn hx => exact ⟨_, rfl, hn, hx⟩

theorem callArgsF (h : STr C s ρ a w) {args : Array Operand} {xs : List AV} {us : List Value} {fs cs : List CV} (hx : args.toList.map s.ev = xs) (hn : us.length = fs.length) (hu : ∀ (j : Nat) (y : CV), fs[j]? = some y → Rep w (LL C s.m ρ) (us.getD j undef) y)
    (ha : ToCs (xs ++ fs.map .c) cs) :
    (((args.map a.eval).toList ++ us : List Value)).length = cs.length ∧ ∀ (j : Nat) (y : CV), cs[j]? = some y → Rep w (LL C s.m ρ) (((args.map a.eval).toList ++ us : List Value).getD j undef) y := by
  have hl : (xs ++ fs.map AV.c).length = cs.length := ha.1
  subst hx
  refine ⟨by simp at hl ⊢; omega, fun j y hy => ?_⟩
  have hj : j < ((args.toList.map s.ev) ++ fs.map AV.c).length := by rw [hl]; exact (List.getElem?_eq_some_iff.1 hy).1
  have hto := ha.2 j _ y (List.getElem?_eq_getElem hj) hy
  refine hto.rep (ρ := ρ) (m := s.m) _ ?_
  by_cases hja : j < args.size
  · have h1 : (((args.toList.map s.ev) ++ fs.map AV.c)[j]'hj) = s.ev args[j] := by
      rw [List.getElem_append_left (by simpa using hja)]; simp
    have h2 : ((args.map a.eval).toList ++ us).getD j undef = a.eval args[j] := by
      simp [List.getD, List.getElem?_append, hja]
    rw [h1, h2]; exact h.evR _
  · have hju : j - args.size < fs.length := by simp at hj; omega
    have h1 : (((args.toList.map s.ev) ++ fs.map AV.c)[j]'hj) = .c (fs[j - args.size]) := by
      rw [List.getElem_append_right (by simpa using Nat.le_of_not_lt hja)]; simp
    have h2 : ((args.map a.eval).toList ++ us).getD j undef = us.getD (j - args.size) undef := by
      simp [List.getD, List.getElem?_append, hja]
    rw [h1, h2]; exact .c (hu _ _ (List.getElem?_eq_getElem hju))

theorem StepV.wp_callF (h : STr C s ρ a w) {callee : Operand} {args : Array Operand} {ats : Array TypeId} {f : FuncId} {fs : List CV} {xs : List AV} {cs rs : List CV} (hc : s.ev callee = .c (.fn f fs))
    (hx : args.toList.map s.ev = xs) (ha : ToCs (xs ++ fs.map .c) cs) (hp : Pure E.P f cs rs) {o : Oper} (ho : o.op = .call { callee := .value callee, args := args, argTypes := ats })
    (hK : ∀ u w', Keep (fun _ => False) w w' → RepA w' (LL C s.m ρ) ρ s.m u (resAV rs) → K (a.put o.dst u) w') : o.wp E.P a w K Q := by
  obtain ⟨⟨fn, hf, hb, hname⟩, hp⟩ := hp
  have hcv := h.evR callee; rw [hc] at hcv
  obtain ⟨us, hcv, hun, hur⟩ := hcv.c_inv.fn_inv
  obtain ⟨hl, hr⟩ := callArgsF h hx hun hur ha
  have hcall := hp w (LL C s.m ρ) _ hl hr (fun b hb => h.live_lt hb)
  have hrun : (execOp a.eval o).run E.P w = .ok (.enter f (⟨(args.map a.eval).toList ++ us⟩)) w := by
    simp only [execOp, ho, resolve, hcv, Deferred.ofValue, Sem.run_bind, Sem.run_pure, Result.andThen_ok, invoke, callFunc, run_program, hf, hname, hb]
    simp
  unfold Oper.wp
  rw [hrun]
  simp only [Oper.upon]
  refine hcall.mono ?_
  rintro e w' ⟨v, rfl, hv, hk⟩
  exact hK v w' hk hv.repA

theorem StepV.wp_callX (h : STr C s ρ a w) {callee : Operand} {args : Array Operand} {ats : Array TypeId} {f : FuncId} {xs : List AV} {cs : List CV} {r : CV} (hc : s.ev callee = .c (.v (.func (.func f) #[] #[])))
    (hx : args.toList.map s.ev = xs) (ha : ToCs xs cs) (hp : PureX E.P f cs r) {o : Oper} (ho : o.op = .call { callee := .value callee, args := args, argTypes := ats })
    (hK : ∀ u, RepA w (LL C s.m ρ) ρ s.m u (.c r) → K (a.put o.dst u) w) : o.wp E.P a w K Q := by
  obtain ⟨hl, hr⟩ := callArgs (us := []) h hx (by simpa using ha)
  simp only [List.append_nil] at hl hr
  obtain ⟨v, hv, hrep⟩ := hp w (LL C s.m ρ) _ hl hr
  refine wp_val (u := v) (w' := w) ?_ (hK _ (.c hrep))
  simp only [execOp, ho, resolve, ev_int h hc, Deferred.ofValue, Sem.run_bind, Sem.run_pure, Result.andThen_ok, invoke]
  have e : (⟨(args.map a.eval).toList⟩ : Array Value) = args.map a.eval := rfl
  rw [e] at hv
  simpa using hv

theorem CV.scalar_rep {w w' : World} {L L' : Nat → Prop} {v : Value} {x : CV} (hs : x.scalar = true) (h : Rep w L v x) : Rep w' L' v x := by
  have hat : ∀ {v : Value} {x : CV}, x.atom = true → Rep w L v x → Rep w' L' v x := by
    intro v x ha hr
    cases hr with
    | v => exact .v _
    | fl h => exact .fl h
    | sl => simp [CV.atom] at ha
    | ad => simp [CV.atom] at ha
    | agg => simp [CV.atom] at ha
    | fn => simp [CV.atom] at ha
  cases h with
  | v => exact .v _
  | fl h => exact .fl h
  | sl => simp [CV.scalar, CV.atom] at hs
  | ad => simp [CV.scalar, CV.atom] at hs
  | agg hn hx =>
    simp only [CV.scalar, List.all_eq_true] at hs
    exact .agg hn fun j y hy => hat (hs y (List.mem_of_getElem? hy)) (hx j y hy)
  | fn => simp [CV.scalar, CV.atom] at hs
theorem ToB.sound (h : STr C s ρ a w) {L' : Nat → Prop} {xs : List AV} {cs : List CV} {R : List Nat} (hb : ToB s.m xs cs R) : (∀ b, L' b → LL C s.m ρ b) → (∀ i ∈ R, ∀ b, Value.blk (ρ i) = some b → ¬ L' b) →
    xs.length = cs.length ∧ ∀ (j : Nat) (x : AV) (y : CV), xs[j]? = some x → cs[j]? = some y → ∀ v, RepA w (LL C s.m ρ) ρ s.m v x → Rep w L' v y := by
  induction hb with
  | nil => exact fun _ _ => ⟨rfl, fun j x y hx => by simp at hx⟩
  | c hc hs ih =>
    intro h1 h2
    obtain ⟨hl, ih⟩ := ih h1 h2
    refine ⟨by simp [hl], fun j x y hx hy v hv => ?_⟩
    cases j with
    | zero => simp at hx hy; subst hx; subst hy; exact (hc.rep v hv).keep (fun b hb _ hb' => hb (h1 b hb')) fun _ _ _ => rfl
    | succ j => exact ih j x y (by simpa using hx) (by simpa using hy) v hv
  | ms hm hn hs ih =>
    rename_i i n sz e zs xs ys R
    intro h1 h2
    obtain ⟨hl, ih⟩ := ih h1 fun k hk => h2 k (by simp [hk])
    refine ⟨by simp [hl], fun j x y hx hy v hv => ?_⟩
    cases j with
    | succ j => exact ih j x y (by simpa using hx) (by simpa using hy) v hv
    | zero =>
      simp at hx hy; subst hx; subst hy
      rw [(hv.ms_inv _ _ _ hm).2 hn]
      obtain ⟨h0, vs, hown, hxx⟩ := h.obj i _ hm
      rcases hown.2 with ⟨e1, e2⟩ | ⟨g, o, cap, cur, e1, hgg, hnc, hcm, hcs, htake⟩
      · have hxs : zs = [] := List.eq_nil_of_length_eq_zero e2
        subst hxs
        rw [e1]
        exact Rep.sl_mk rfl (Nat.le_refl _) (by simp [maxLen]) h0 (fun h => absurd h (by simp)) (fun i x hx => by simp at hx)
      · rw [e1]
        refine Rep.sl_mk rfl hnc hcm h0 (fun hp => ⟨g, o, rfl, h2 i (by simp) g (by rw [e1]; rfl), fun k x hkx j y hjy => ?_⟩) fun k x hkx => (hxx k x hkx).1
        obtain ⟨_, b, p, cap', hu, hc⟩ := (h.obj i _ hm).arr_cell hkx
        rw [e1] at hu; cases hu
        obtain ⟨u, hu, hr⟩ := hc j y hjy
        exact ⟨u, by simpa using hu, hr.keep (fun b hb _ hb' => hb (h1 b hb')) fun _ _ _ => rfl⟩
  | agg hu hs ihu ih =>
    intro h1 h2
    obtain ⟨hlu, ihu⟩ := ihu h1 fun k hk => h2 k (by simp [hk])
    obtain ⟨hl, ih⟩ := ih h1 fun k hk => h2 k (by simp [hk])
    refine ⟨by simp [hl], fun j x y hx hy v hv => ?_⟩
    cases j with
    | succ j => exact ih j x y (by simpa using hx) (by simpa using hy) v hv
    | zero =>
      simp at hx hy; subst hx; subst hy
      cases hv with
      | agg hn hxx =>
        refine .agg (by omega) fun j y hy => ?_
        have hj := (List.getElem?_eq_some_iff.1 hy).1
        rw [← hlu] at hj
        exact ihu j _ y (List.getElem?_eq_getElem hj) hy _ (hxx j _ (List.getElem?_eq_getElem hj))
theorem StepV.wp_callB (h : STr C s ρ a w) {callee : Operand} {args : Array Operand} {ats : Array TypeId} {f : FuncId} {us : List Value} {cs rs : List CV} {R : List Nat} (hc : s.ev callee = .c (.v (.func (.func f) #[] ⟨us⟩)))
    (hx : ToB s.m (args.toList.map s.ev ++ us.map fun u => .c (.v u)) cs R) (hp : Pure E.P f cs rs) (hsc : rs.all CV.scalar = true) {o : Oper} (ho : o.op = .call { callee := .value callee, args := args, argTypes := ats })
    (hK : ∀ u w', Keep (fun _ => False) w w' → RepA w' (LL C s.m ρ) ρ s.m u (resAV rs) → K (a.put o.dst u) w') : o.wp E.P a w K Q := by
  obtain ⟨⟨fn, hf, hb, hname⟩, hp⟩ := hp
  let L : Nat → Prop := fun b => LL C s.m ρ b ∧ ∀ i ∈ R, Value.blk (ρ i) ≠ some b
  obtain ⟨hl, hr⟩ := hx.sound h (L' := L) (fun b hb => hb.1) (fun i hi b hb hL => hL.2 i hi hb)
  have hcall := hp w L ((args.map a.eval).toList ++ us) (by simpa using hl) (fun j y hy => by
    have hj : j < ((args.toList.map s.ev) ++ us.map fun u => AV.c (.v u)).length := by rw [hl]; exact (List.getElem?_eq_some_iff.1 hy).1
    refine hr j _ y (List.getElem?_eq_getElem hj) hy _ ?_
    by_cases hja : j < args.size
    · have h1 : (((args.toList.map s.ev) ++ us.map fun u => AV.c (.v u))[j]'hj) = s.ev args[j] := by
        rw [List.getElem_append_left (by simpa using hja)]; simp
      have h2 : ((args.map a.eval).toList ++ us).getD j undef = a.eval args[j] := by
        simp [List.getD, List.getElem?_append, hja]
      rw [h1, h2]; exact h.evR _
    · have hju : j - args.size < us.length := by simp at hj; omega
      have h1 : (((args.toList.map s.ev) ++ us.map fun u => AV.c (.v u))[j]'hj) = .c (.v (us[j - args.size])) := by
        rw [List.getElem_append_right (by simpa using Nat.le_of_not_lt hja)]; simp
      have h2 : ((args.map a.eval).toList ++ us).getD j undef = us[j - args.size] := by
        simp [List.getD, List.getElem?_append, hja, List.getElem?_eq_getElem hju]
      rw [h1, h2]; exact .c (.v _)) (fun b hb => h.live_lt hb.1)
  have hrun : (execOp a.eval o).run E.P w = .ok (.enter f (⟨(args.map a.eval).toList ++ us⟩)) w := by
    simp only [execOp, ho, resolve, ev_int h hc, Deferred.ofValue, Sem.run_bind, Sem.run_pure, Result.andThen_ok, invoke, callFunc, run_program, hf, hname, hb]
    simp
  unfold Oper.wp
  rw [hrun]
  simp only [Oper.upon]
  refine hcall.mono ?_
  rintro e w' ⟨v, rfl, hv, hk⟩
  refine hK v w' hk (ResRel.repA (L := LL C s.m ρ) ?_)
  rw [List.all_eq_true] at hsc
  unfold ResRel at hv ⊢
  split at hv
  · exact CV.scalar_rep (hsc _ (by simp)) hv
  · obtain ⟨vs, rfl, hn, hx⟩ := hv
    exact ⟨vs, rfl, hn, fun j y hy => CV.scalar_rep (hsc y (List.mem_of_getElem? hy)) (hx j y hy)⟩

theorem fill_slice (sz : Nat) (h0 : 0 < sz) : ∀ (us : List Value) (k n : Nat) (vs : Array Value), vs.size = n * sz → k + us.length ≤ n → (∀ u ∈ us, u.cells.size = sz) →
    ∃ out, Instr.fill (fun i => some (i * sz, sz)) vs ((us.zipIdx k).map fun p => (p.2, p.1)) = some out ∧ out.size = n * sz ∧
      (∀ j, j < k * sz → out[j]? = vs[j]?) ∧ ∀ (i : Nat) (u : Value), us[i]? = some u → ∀ j, j < sz → out[(k + i) * sz + j]? = u.cells[j]?
  | [], k, n, vs, hs, hk, _ => ⟨vs, rfl, hs, fun _ _ => rfl, fun i u hu => by simp at hu⟩
  | u :: us, k, n, vs, hs, hk, hu => by
    have hus := hu u (by simp)
    have hkn : k * sz + sz ≤ n * sz := by rw [← Nat.succ_mul]; exact Nat.mul_le_mul_right _ (by simp at hk; omega)
    have hf0 : u.cells.zipIdx.foldl (fun cs (x : Value × Nat) => cs.setIfInBounds (k * sz + x.2) x.1) vs = ⟨vs.toList.take (k * sz) ++ u.cells.toList ++ vs.toList.drop (k * sz + sz)⟩ := by
      rw [← Array.foldl_toList, Array.toList_zipIdx, foldl_zip u.cells.toList (k * sz) 0 vs]
      apply Array.ext'
      simp only [Nat.add_zero, Array.length_toList]
      rw [List.take_of_length_le (l := u.cells.toList) (by rw [Array.length_toList]; omega), hus]
    obtain ⟨out, ho, hos, hold, hnew⟩ := fill_slice sz h0 us (k + 1) n ⟨vs.toList.take (k * sz) ++ u.cells.toList ++ vs.toList.drop (k * sz + sz)⟩ (by simp; omega) (by simp at hk; omega) (fun v hv => hu v (by simp [hv]))
    refine ⟨out, ?_, hos, fun j hj => ?_, fun i v hv j hj => ?_⟩
    · simp only [List.zipIdx_cons, List.map_cons, Instr.fill]
      rw [if_neg]
      · rw [hf0]; exact ho
      · simp only [Bool.or_eq_true, decide_eq_true_eq, not_or]
        exact ⟨by omega, by omega⟩
    · rw [hold j (by rw [Nat.succ_mul]; omega)]
      simp only [List.getElem?_toArray, List.append_assoc]
      rw [List.getElem?_append_left (by simp; omega), List.getElem?_take, if_pos hj]
      simp
    · cases i with
      | zero =>
        simp at hv; subst hv
        rw [Nat.add_zero, hold _ (by rw [Nat.succ_mul]; omega)]
        simp only [List.getElem?_toArray, List.append_assoc]
        rw [List.getElem?_append_right (by simp; omega), List.getElem?_append_left (by simp; omega)]
        simp
        congr 1; omega
      | succ i =>
        have := hnew i v (by simpa using hv) j hj
        rw [← this]; congr 2; rw [show k + (i + 1) = k + 1 + i by omega]
end
end Go.AM

/- The abstract machine, part 12: slices that are written out, or made; all value operations in one law. It speaks of whatever program. -/
namespace Go.AM
open Go Go.RowKit
set_option linter.unusedVariables false
set_option linter.unusedSimpArgs false

section
variable {E : Env} {C : Ctx} {s : AS} {ρ : Nat → Value} {a : Act} {w : World} {K : Act → World → Prop} {Q : Exit → Act → World → Prop}

theorem Rep.cells {L : Nat → Prop} {u : Value} {x : CV} (h : Rep w L u x) (hp : x.plain = true) : u.cells.size = x.cells.length ∧ ∀ (j : Nat) (y : CV), x.cells[j]? = some y → Rep w L (u.cells.getD j undef) y := by
  have single : ∀ {u : Value} {x : CV}, Rep w L u x → u.cells = #[u] → x.cells = [x] → u.cells.size = x.cells.length ∧ ∀ (j : Nat) (y : CV), x.cells[j]? = some y → Rep w L (u.cells.getD j undef) y := by
    intro u x hr h1 h2
    rw [h1, h2]
    refine ⟨rfl, fun j y hy => ?_⟩
    cases j with
    | zero => simp at hy; subst hy; exact hr
    | succ j => simp at hy
  cases h with
  | v u => exact single (.v u) (by cases u <;> simp_all [Value.cells, CV.plain]) rfl
  | fl hh => exact single (.fl hh) rfl rfl
  | sl g hn hcap hmax hsz ha hlen hx => exact single (.sl g hn hcap hmax hsz ha hlen hx) rfl rfl
  | ad g hb h0 ha hx => exact single (.ad g hb h0 ha hx) rfl rfl
  | fn hn hx => exact single (.fn hn hx) rfl rfl
  | agg hn hx => exact ⟨by simpa [Value.cells, CV.cells] using hn, fun j y hy => by simpa [Value.cells, Array.getD_eq_getD_getElem?, List.getD] using hx j y hy⟩

theorem LL_alloc (h : STr C s ρ a w) : ¬ LL C s.m ρ w.heap.size := fun hb => absurd (h.live_lt hb) (Nat.lt_irrefl _)

theorem run_bslice (h : STr C s ρ a w) {t : TypeId} {e sz : Nat} {parts : Array (Nat × Operand)} {xs : List CV} {d de : TD} (ht : E.Ty t = some d) (hd : d.desc = .slice e) (he : E.Ty e = some de) (hs : de.sz = sz) (h0 : Nat.beq sz 0 = false)
    (hi : parts.toList.map (·.1) = List.range xs.length) (hx : ToCs (parts.toList.map fun p => s.ev p.2) xs) (hl : ∀ x ∈ xs, x.cells.length = sz ∧ x.plain = true) (hb : xs.length * sz ≤ 16777216)
    {o : Oper} (ho : o.op = .buildSlice t xs.length parts) :
    ∃ out : Array Value, (execOp a.eval o).run E.P w = .ok (.value (.slice (some ⟨w.heap.size, 0, none⟩) xs.length xs.length)) (w.alloc (.cells out e)) ∧ out.size = xs.length * sz ∧
      ∀ (i : Nat) (x : CV), xs[i]? = some x → ∀ (j : Nat) (y : CV), x.cells[j]? = some y → Rep w (LL C s.m ρ) (out.getD (i * sz + j) undef) y := by
  have h0' : 0 < sz := by
    rcases Nat.eq_zero_or_pos sz with e | e
    · rw [e] at h0; cases h0
    · exact e
  have hu := Env.und ht; rw [hd] at hu
  obtain ⟨z, hz, hzc⟩ := Env.zero he w
  have hplen : parts.size = xs.length := by have := congrArg List.length hi; simpa using this
  -- the parts' values
  have hrep : ∀ (j : Nat) (x : CV), xs[j]? = some x → ∀ p, parts.toList[j]? = some p → Rep w (LL C s.m ρ) (a.eval p.2) x := by
    intro j x hxj p hp
    exact (hx.2 j (s.ev p.2) x (by rw [List.getElem?_map, hp]; rfl) hxj).rep (ρ := ρ) (m := s.m) _ (h.evR _)
  have hvs : parts.map (fun p => (p.1, a.eval p.2)) = ⟨((parts.toList.map fun p => a.eval p.2).zipIdx 0).map fun p => (p.2, p.1)⟩ := by
    apply Array.ext'
    simp only [Array.toList_map]
    apply List.ext_getElem?
    intro j
    simp only [List.getElem?_map, List.getElem?_zipIdx, Nat.zero_add]
    cases hp : parts.toList[j]? with
    | none => rfl
    | some p =>
      have hj : (parts.toList.map (·.1))[j]? = some p.1 := by rw [List.getElem?_map, hp]; rfl
      rw [hi] at hj
      have : j = p.1 := by
        have := List.getElem?_eq_some_iff.1 hj
        obtain ⟨h1, h2⟩ := this
        simpa using h2
      simp [this]
  have hcs : ∀ u ∈ (parts.toList.map fun p => a.eval p.2), u.cells.size = sz := by
    intro u hu
    obtain ⟨p, hp, rfl⟩ := List.mem_map.1 hu
    obtain ⟨j, hj⟩ := List.mem_iff_getElem?.1 hp
    have hjl : j < xs.length := by rw [← hplen]; simpa using (List.getElem?_eq_some_iff.1 hj).1
    have hxj := List.getElem?_eq_getElem hjl
    have := (hrep j _ hxj p hj).cells (hl _ (List.getElem_mem hjl)).2
    rw [this.1]; exact (hl _ (List.getElem_mem hjl)).1
  have hzs : z.cells.size = sz ∨ True := .inr trivial
  obtain ⟨out, hfill, hos, _, hnew⟩ := fill_slice sz h0' (parts.toList.map fun p => a.eval p.2) 0 xs.length ((Array.range (xs.length * sz)).map (z.cells[· % z.cells.size]!)) (by simp) (by simp [hplen]) hcs
  by_cases hx0 : xs.length = 0
  · have hxs : xs = [] := List.eq_nil_of_length_eq_zero hx0
    subst hxs
    have hpe : parts = #[] := by have : parts.size = 0 := by simpa using hplen
                                 exact Array.eq_empty_of_size_eq_zero this
    subst hpe
    have e0 : ∀ f : Nat → Value, (Array.range 0).map f = #[] := fun f => by simp
    exact ⟨#[], by simp [execOp, ho, Instr.buildSlice, run_underlying hu, Env.size he, Instr.fill, newRow, e0], by simp, fun i x hx => by simp at hx⟩
  · have hne : ¬ xs.length * sz = 0 := by
      intro hh; rcases Nat.mul_eq_zero.1 hh with h1 | h1 <;> omega
    refine ⟨out, ?_, hos, fun i x hxi j y hy => ?_⟩
    · have hgt : ¬ xs.length * sz > 2 ^ 24 := by omega
      have hfill' : Instr.fill (fun i => some (i * sz, sz)) ((Array.range (xs.length * sz)).map (z.cells[· % z.cells.size]!)) (parts.map (fun p => (p.1, a.eval p.2))).toList = some out := by rw [hvs]; exact hfill
      simp only [execOp, ho, Instr.buildSlice, Sem.run_bind, run_underlying hu, Result.andThen_ok, Env.size he, hs, if_neg hgt, if_neg hne, hz, Sem.run_pure]
      rw [hfill']
      simp [newRow]
    · have hil : i < parts.toList.length := by simp [hplen]; exact (List.getElem?_eq_some_iff.1 hxi).1
      have hp := List.getElem?_eq_getElem hil
      have hr := (hrep i x hxi _ hp).cells (hl x (List.mem_of_getElem? hxi)).2
      have hjs : j < sz := by rw [← (hl x (List.mem_of_getElem? hxi)).1]; exact (List.getElem?_eq_some_iff.1 hy).1
      have hcell := hnew i _ (by rw [List.getElem?_map, hp]; rfl) j hjs
      have hjc : j < (a.eval (parts.toList[i]).2).cells.size := by rw [hr.1]; exact (List.getElem?_eq_some_iff.1 hy).1
      rw [Nat.zero_add] at hcell
      rw [Array.getD_eq_getD_getElem?, hcell, ← Array.getD_eq_getD_getElem?]
      exact hr.2 j y hy
theorem wp_bslice (h : STr C s ρ a w) {t : TypeId} {e sz : Nat} {parts : Array (Nat × Operand)} {xs : List CV} {d de : TD} (ht : E.Ty t = some d) (hd : d.desc = .slice e) (he : E.Ty e = some de) (hs : de.sz = sz) (h0 : Nat.beq sz 0 = false)
    (hi : parts.toList.map (·.1) = List.range xs.length) (hx : ToCs (parts.toList.map fun p => s.ev p.2) xs) (hl : ∀ x ∈ xs, x.cells.length = sz ∧ x.plain = true) (hb : xs.length * sz ≤ 16777216)
    {o : Oper} (ho : o.op = .buildSlice t xs.length parts) (hK : ∀ u w', Keep (fun _ => False) w w' → RepA w' (LL C s.m ρ) ρ s.m u (.c (.sl sz xs)) → K (a.put o.dst u) w') : o.wp E.P a w K Q := by
  have h0' : 0 < sz := by
    rcases Nat.eq_zero_or_pos sz with e | e
    · rw [e] at h0; cases h0
    · exact e
  obtain ⟨out, hrun, hos, hrep⟩ := run_bslice h ht hd he hs h0 hi hx hl hb ho
  refine wp_val hrun (hK _ _ (Keep.alloc _ _ _) (.c (Rep.sl_mk rfl (Nat.le_refl _) ?_ h0' (fun _ => ⟨w.heap.size, 0, rfl, LL_alloc h, fun i x hxi j y hy => ?_⟩) fun i x hxi => (hl x (List.mem_of_getElem? hxi)).1)))
  · have : xs.length * 1 ≤ xs.length * sz := Nat.mul_le_mul_left _ h0'
    simp only [maxLen]; omega
  · refine ⟨out.getD (i * sz + j) undef, ?_, (hrep i x hxi j y hy).keep (fun _ h _ => h) (fun b _ hb => Below.heap_alloc w _ b hb)⟩
    have hil : i < xs.length := (List.getElem?_eq_some_iff.1 hxi).1
    have hjs : j < sz := by rw [← (hl x (List.mem_of_getElem? hxi)).1]; exact (List.getElem?_eq_some_iff.1 hy).1
    have hlt : i * sz + j < out.size := by
      rw [hos]
      calc i * sz + j < i * sz + sz := by omega
        _ = (i + 1) * sz := by rw [Nat.succ_mul]
        _ ≤ xs.length * sz := Nat.mul_le_mul_right _ (by omega)
    rw [World.cell?_alloc_new, Nat.zero_add, Array.getElem?_eq_getElem hlt, Array.getD_eq_getD_getElem?, Array.getElem?_eq_getElem hlt, Option.getD_some]

theorem wp_mkslice (h : STr C s ρ a w) {t : TypeId} {x y : Operand} {e : Nat} {k k' : IntKind} {n : Nat} {d de : TD} {z : Value} (hx : s.ev x = .c (.v (.int k n))) (hy : s.ev y = .c (.v (.int k' n))) (ht : E.Ty t = some d) (hd : d.desc = .slice e) (he : E.Ty e = some de)
    (hz : de.zero = [z]) (hs : de.sz = 1) (hb : n * de.bytes ≤ 140737488355328) (hn : n ≤ 140737488355328) {o : Oper} (ho : o.op = .makeSlice t x y)
    (hK : ∀ u w', Keep (fun _ => False) w w' → RepA w' (LL C s.m ρ) ρ s.m u (.c (.sl 1 (List.replicate n (.v z)))) → K (a.put o.dst u) w') : o.wp E.P a w K Q := by
  have hu := Env.und ht; rw [hd] at hu
  obtain ⟨hue, i, hi, his, hib, z', hz', hzc⟩ := E.ok e de he
  have hz1 : z'.cells = #[z] := by apply Array.ext'; rw [hzc, hz]
  have hbb : (i.bytes : Int) * (n : Int) ≤ 281474976710656 := by
    rw [hib]
    have hc : ((de.bytes * n : Nat) : Int) = (de.bytes : Int) * (n : Int) := by simp
    rw [← hc, Nat.mul_comm]; omega
  have hrun := run_make (P := E.P) w t e i z' hu hi hz' k k' n n (by omega) (Int.le_refl _) hbb (by omega)
  rw [his, hs, hz1] at hrun
  simp only [Int.toNat_natCast, Nat.mul_one] at hrun
  refine wp_val (u := .slice (some ⟨w.heap.size, 0, none⟩) n n) (w' := w.alloc (.cells (madeCells #[z] n) e)) (by simp [execOp, ho, ev_int h hx, ev_int h hy, hrun]) (hK _ _ (Keep.alloc _ _ _) (.c (Rep.sl_mk (by simp) (Nat.le_refl _) (by simp only [maxLen]; omega) (by omega) (fun _ => ⟨w.heap.size, 0, rfl, LL_alloc h, fun i x hxi j y hy => ?_⟩) fun i x hxi => ?_)))
  · obtain ⟨hin, hxe⟩ := List.getElem?_eq_some_iff.1 hxi
    simp at hxe hin; subst hxe
    have hj0 : j = 0 := by have := (List.getElem?_eq_some_iff.1 hy).1; simp [CV.cells] at this; omega
    subst hj0
    simp [CV.cells] at hy; subst hy
    refine ⟨z, ?_, .v z⟩
    rw [World.cell?_alloc_new]
    simp [madeCells, hin, Nat.mod_one]
  · obtain ⟨hin, hxe⟩ := List.getElem?_eq_some_iff.1 hxi
    simp at hxe; subst hxe; rfl

/-- ALL VALUE OPERATIONS. -/
theorem StepV.wp (h : STr C s ρ a w) {op : Op} {v : AV} {R : List Nat} (hs : StepV E s.m s.ev op v R) {o : Oper} (ho : o.op = op)
    (hK : ∀ u w', Keep (fun _ => False) w w' → RepA w' (LL C s.m ρ) ρ s.m u v → K (a.put o.dst u) w') : o.wp E.P a w K Q := by
  have hk : ∀ u, RepA w (LL C s.m ρ) ρ s.m u v → K (a.put o.dst u) w := fun u hu => hK u w (Keep.refl _ w) hu
  cases op with
  | move x => exact hs.wp_plain h ho (.inl ⟨_, rfl⟩) hK
  | assign x => exact hs.wp_plain h ho (.inr (.inl ⟨_, rfl⟩)) hK
  | pick c x y => exact hs.wp_plain h ho (.inr (.inr (.inl ⟨_, _, _, rfl⟩))) hK
  | index t x i => exact hs.wp_plain h ho (.inr (.inr (.inr (.inl ⟨_, _, _, rfl⟩)))) hK
  | binOp b t x y u => exact hs.wp_plain h ho (.inr (.inr (.inr (.inr (.inl ⟨_, _, _, _, _, rfl⟩))))) hK
  | unOp b t x => exact hs.wp_plain h ho (.inr (.inr (.inr (.inr (.inr (.inl ⟨_, _, _, rfl⟩)))))) hK
  | convert t u x => exact hs.wp_plain h ho (.inr (.inr (.inr (.inr (.inr (.inr (.inl ⟨_, _, _, rfl⟩))))))) hK
  | extract x j => exact hs.wp_plain h ho (.inr (.inr (.inr (.inr (.inr (.inr (.inr (.inl ⟨_, _, rfl⟩)))))))) hK
  | makeFunc f x y => exact hs.wp_plain h ho (.inr (.inr (.inr (.inr (.inr (.inr (.inr (.inr (.inl ⟨_, _, _, rfl⟩))))))))) hK
  | load t x => exact hs.wp_mem h ho (.inl ⟨_, _, rfl⟩) hk
  | fieldAddr t x f => exact hs.wp_mem h ho (.inr (.inl ⟨_, _, _, rfl⟩)) hk
  | indexAddr t x i => exact hs.wp_mem h ho (.inr (.inr ⟨_, _, _, rfl⟩)) hk
  | box t x =>
    cases hs with
    | boxC hx hp h0 =>
      rename_i y
      have hr := (hx.rep (ρ := ρ) (m := s.m) _ (h.evR x)).cells hp
      refine wp_val (u := .pointer (some ⟨w.heap.size, 0, none⟩)) (w' := w.alloc (.cells (a.eval x).cells t)) (by simp [execOp, ho, Instr.box, newVar, newRow]) (hK _ _ (Keep.alloc _ _ _) (.c (.ad (fun j => (a.eval x).cells.getD j undef) (LL_alloc h) h0 (fun j hj => ?_) fun j q hq => ?_)))
      · rw [World.cell?_alloc_new, Nat.zero_add]
        have hjc : j < (a.eval x).cells.size := by rw [hr.1]; exact hj
        simp only [Array.getD_eq_getD_getElem?, Array.getElem?_eq_getElem hjc, Option.getD_some]
      · exact (hr.2 j q hq).keep (fun _ h _ => h) (fun b _ hb => Below.heap_alloc w _ b hb)
  | build t parts =>
    cases hs with
    | build ht hd ha hf => exact StepV.wp_build h ht hd ha hf ho hk
  | slice t x lo hi mx =>
    cases hs with
    | slc hx ht hd he hs' hlo hhi hlh hh => exact StepV.wp_slc h hx ht hd he hs' hlo hhi hlh hh ho hk
  | buildSlice t n parts =>
    cases hs with
    | bslice ht hd he hs' h0 hi hx hl hb => exact wp_bslice h ht hd he hs' h0 hi hx hl hb ho hK
  | makeSlice t x y =>
    cases hs with
    | mkslice hx hy ht hd he hz hs' hb hn => exact wp_mkslice h hx hy ht hd he hz hs' hb hn ho hK
  | call c =>
    obtain ⟨callee, args, ats⟩ := c
    cases callee with
    | builtin b =>
      cases hs with
      | lenC hx ht hd => exact (StepV.lenC hx ht hd).wp_plain h ho (.inr (.inr (.inr (.inr (.inr (.inr (.inr (.inr (.inr ⟨_, _, rfl⟩))))))))) hK
      | lenV hx ht hd => exact (StepV.lenV hx ht hd).wp_plain h ho (.inr (.inr (.inr (.inr (.inr (.inr (.inr (.inr (.inr ⟨_, _, rfl⟩))))))))) hK
      | lenM hx hm hn ht hd => exact (StepV.lenM hx hm hn ht hd).wp_plain h ho (.inr (.inr (.inr (.inr (.inr (.inr (.inr (.inr (.inr ⟨_, _, rfl⟩))))))))) hK
      | lenS hx ht hd => exact (StepV.lenS hx ht hd).wp_plain h ho (.inr (.inr (.inr (.inr (.inr (.inr (.inr (.inr (.inr ⟨_, _, rfl⟩))))))))) hK
    | value f =>
      cases hs with
      | callP hc hx ha hp => exact StepV.wp_call h hc hx ha hp ho hK
      | callF hc hx ha hp => exact StepV.wp_callF h hc hx ha hp ho hK
      | callX hc hx ha hp => exact StepV.wp_callX h hc hx ha hp ho hk
      | callB hc hx hp hs => exact StepV.wp_callB h hc hx hp hs ho hK
    | invoke r m => cases hs
  | _ => cases hs
end
end Go.AM

/- The abstract machine, part 20: calls that are handed objects of the caller's own, and hand some back. It speaks of whatever program. -/
namespace Go.AM
open Go Go.RowKit
set_option linter.unusedVariables false
set_option linter.unusedSimpArgs false

def m0 : Nat → Option Ob := fun _ => none
def mkM : List (Nat × Ob) → Nat → Option Ob
  | [] => m0
  | (d, o) :: r => updM (mkM r) d (some o)
theorem mkM_none {i : Nat} : ∀ {l : List (Nat × Ob)}, mkM l i = none ↔ i ∉ l.map (·.1)
  | [] => by simp [mkM, m0]
  | (d, o) :: r => by
    have ih := mkM_none (i := i) (l := r)
    by_cases e : i = d
    · subst e; simp [mkM, updM_same]
    · simp only [mkM, updM_ne _ _ e, ih, List.map_cons, List.mem_cons, not_or]; exact ⟨fun h => ⟨e, h⟩, fun h => h.2⟩
theorem mkM_mem {i : Nat} {o : Ob} : ∀ {l : List (Nat × Ob)}, mkM l i = some o → (i, o) ∈ l
  | [], h => by cases h
  | (d, p) :: r, h => by
    by_cases e : i = d
    · subst e; simp only [mkM, updM_same] at h; cases h; simp
    · simp only [mkM, updM_ne _ _ e] at h; exact List.mem_cons_of_mem _ (mkM_mem h)
theorem mkM_some {i : Nat} {l : List (Nat × Ob)} (h : i ∈ l.map (·.1)) : ∃ o, mkM l i = some o := by
  cases hm : mkM l i with
  | none => exact absurd h (mkM_none.1 hm)
  | some o => exact ⟨o, rfl⟩

def AS.noId (s : AS) (d : Nat) : Prop := (∀ j, NoId d (s.t j)) ∧ ∀ i o, s.m i = some o → o.noId d
/-- What is handed over, objects and all. -/
inductive ToA : AV → AV → Prop where
  | refl (x : AV) : ToA x x
  | c {x : AV} {y : CV} (h : ToC x y) : ToA x (.c y)
  | agg {xs ys : List AV} (hn : xs.length = ys.length) (h : ∀ (j : Nat) (x y : AV), xs[j]? = some x → ys[j]? = some y → ToA x y) : ToA (.agg xs) (.agg ys)
theorem ToA.rep {w : World} {L : Nat → Prop} {ρ : Nat → Value} {m : Nat → Option Ob} {x y : AV} (h : ToA x y) : ∀ v, RepA w L ρ m v x → RepA w L ρ m v y := by
  induction h with
  | refl x => exact fun v h => h
  | c h => exact fun v hv => .c (h.rep v hv)
  | agg hn h ih =>
    intro v hv
    cases hv with
    | agg hn' hx =>
      refine .agg (hn'.trans hn) fun j y hy => ?_
      rename_i xs ys vs
      have hj : j < xs.length := by rw [hn]; exact (List.getElem?_eq_some_iff.1 hy).1
      exact ih j _ y (List.getElem?_eq_getElem hj) hy _ (hx j _ (List.getElem?_eq_getElem hj))
theorem ToC.noId {x : AV} {y : CV} (h : ToC x y) (d : Nat) : NoId d x := by
  induction h with
  | c h => exact .c _
  | agg hn h ih =>
    refine .agg fun j x hx => ?_
    rename_i xs ys
    have hj : j < ys.length := by rw [← hn]; exact (List.getElem?_eq_some_iff.1 hx).1
    exact ih j x _ hx (List.getElem?_eq_getElem hj)
theorem ToA.noId {x y : AV} (h : ToA x y) (d : Nat) : NoId d x → NoId d y := by
  induction h with
  | refl x => exact id
  | c h => exact fun _ => .c _
  | agg hn h ih =>
    intro hx
    cases hx with
    | agg hx =>
      refine .agg fun j y hy => ?_
      rename_i xs ys
      have hj : j < xs.length := by rw [hn]; exact (List.getElem?_eq_some_iff.1 hy).1
      exact ih j _ y (List.getElem?_eq_getElem hj) hy (hx j _ (List.getElem?_eq_getElem hj))
def ToAs (xs ys : List AV) : Prop := xs.length = ys.length ∧ ∀ (j : Nat) (x y : AV), xs[j]? = some x → ys[j]? = some y → ToA x y
theorem ToAs.nil : ToAs [] [] := ⟨rfl, fun j x y hx => by simp at hx⟩
theorem ToAs.cons {x y : AV} {xs ys : List AV} (h : ToA x y) (hs : ToAs xs ys) : ToAs (x :: xs) (y :: ys) := by
  refine ⟨by simp [hs.1], fun j a b ha hb => ?_⟩
  cases j with
  | zero => simp at ha hb; subst ha; subst hb; exact h
  | succ j => simp at ha hb; exact hs.2 j a b ha hb
theorem ToA.aggs {xs ys : List AV} (h : ToAs xs ys) : ToA (.agg xs) (.agg ys) := .agg h.1 h.2

def ResA (w : World) (L : Nat → Prop) (ρ : Nat → Value) (m : Nat → Option Ob) (v : Value) (rs : List AV) : Prop :=
  match rs with
  | [x] => RepA w L ρ m v x
  | rs => ∃ vs, v = .tuple ⟨vs⟩ ∧ vs.length = rs.length ∧ ∀ (j : Nat) (y : AV), rs[j]? = some y → RepA w L ρ m (vs.getD j undef) y
def resA (rs : List AV) : AV :=
  match rs with
  | [x] => x
  | rs => .tup rs
theorem ResA.repA {w : World} {L : Nat → Prop} {ρ : Nat → Value} {m : Nat → Option Ob} {v : Value} {rs : List AV} (h : ResA w L ρ m v rs) : RepA w L ρ m v (resA rs) := by
  unfold ResA at h; unfold resA
  split at h
  · exact h
  · rename_i hne
    obtain ⟨vs, rfl, hn, hx⟩ := h
    exact .tup hn hx

/-- Objects stand as told, apart from one another and from what L names. -/
structure Objs (w : World) (L : Nat → Prop) (ρ : Nat → Value) (m : Nat → Option Ob) : Prop where
  obj : ∀ i o, m i = some o → ObRel w (fun b => L b ∨ live m ρ b) ρ m (ρ i) o
  own : ∀ i o b, m i = some o → Value.blk (ρ i) = some b → ¬ L b ∧ b < w.heap.size
  inj : ∀ i j oi oj b, m i = some oi → m j = some oj → Value.blk (ρ i) = some b → Value.blk (ρ j) = some b → i = j

def Ob.like : Ob → Ob → Prop
  | .box _, .box _ => True
  | .arr sz _ xs, .arr sz' _ xs' => sz = sz' ∧ xs.length = xs'.length
  | _, _ => False
/-- Nothing of these names d. -/
def NoMen (d : Nat) (xs : List AV) (m : List (Nat × Ob)) : Prop := (∀ x ∈ xs, NoId d x) ∧ ∀ p ∈ m, p.2.noId d
def newIds (a b : List (Nat × Ob)) : List Nat := (b.map (·.1)).filter fun i => !(a.map (·.1)).contains i
theorem mem_newIds {a b : List (Nat × Ob)} {i : Nat} : i ∈ newIds a b ↔ i ∈ b.map (·.1) ∧ i ∉ a.map (·.1) := by
  unfold newIds; rw [List.mem_filter]; simp

/-- A function that is handed objects (a), and hands objects back (b): one that it has kept stands where it stood. -/
structure Own (P : Program) (f : FuncId) (xs : List AV) (a : List (Nat × Ob)) (rs : List AV) (b : List (Nat × Ob)) : Prop where
  body : HasBody P f
  like : ∀ i o o', mkM a i = some o → mkM b i = some o' → o.like o'
  clo : ∀ k, k ∉ a.map (·.1) → k ∉ b.map (·.1) → NoMen k rs b
  root : ∀ k, k ∈ a.map (·.1) → ¬ NoMen k xs a
  call : ∀ (w : World) (L : Nat → Prop) (ρ : Nat → Value) (vs : List Value), vs.length = xs.length →
    (∀ (j : Nat) (y : AV), xs[j]? = some y → RepA w (fun b => L b ∨ live (mkM a) ρ b) ρ (mkM a) (vs.getD j undef) y) → (∀ b, L b → b < w.heap.size) → Objs w L ρ (mkM a) →
    Calls P f ⟨vs⟩ w fun e w' => ∃ v ρ', e = .returned v ∧ ResA w' (fun k => L k ∨ live (mkM b) ρ' k) ρ' (mkM b) v rs ∧ Objs w' L ρ' (mkM b) ∧ Keep (live (mkM a) ρ) w w' ∧
      (∀ i o k, mkM b i = some o → Value.blk (ρ' i) = some k → live (mkM a) ρ k ∨ w.heap.size ≤ k) ∧ ∀ i o o', mkM a i = some o → mkM b i = some o' → ρ' i = ρ i

def updMs (m : Nat → Option Ob) : List (Nat × Option Ob) → Nat → Option Ob
  | [] => m
  | (i, o) :: r => updMs (updM m i o) r
def ownW (a b : List (Nat × Ob)) : List (Nat × Option Ob) := a.map (fun p => (p.1, none)) ++ b.map fun p => (p.1, some p.2)
theorem updMs_append : ∀ (a b : List (Nat × Option Ob)) (m : Nat → Option Ob), updMs m (a ++ b) = updMs (updMs m a) b
  | [], b, m => rfl
  | (i, o) :: r, b, m => updMs_append r b (updM m i o)
theorem updMs_nones : ∀ (a : List (Nat × Ob)) (m : Nat → Option Ob) (i : Nat), updMs m (a.map fun p => (p.1, none)) i = if i ∈ a.map (·.1) then none else m i
  | [], m, i => by simp [updMs]
  | (k, o) :: r, m, i => by
    simp only [List.map_cons, updMs, updMs_nones r, List.mem_cons]
    by_cases h1 : i ∈ r.map (·.1)
    · simp [h1]
    · by_cases h2 : i = k
      · subst h2; simp [h1, updM_same]
      · rw [if_neg h1, if_neg (by simp [h2, h1]), updM_ne _ _ h2]
theorem updMs_somes : ∀ (b : List (Nat × Ob)) (m : Nat → Option Ob) (i : Nat), (b.map (·.1)).Nodup → updMs m (b.map fun p => (p.1, some p.2)) i = match mkM b i with | some o => some o | none => m i
  | [], m, i, _ => rfl
  | (k, o) :: r, m, i, hn => by
    simp only [List.map_cons, List.nodup_cons] at hn
    simp only [List.map_cons, updMs]
    rw [updMs_somes r _ i hn.2]
    by_cases h2 : i = k
    · subst h2
      rw [mkM_none.2 hn.1]; simp [mkM, updM_same]
    · simp [mkM, updM_ne _ _ h2]
theorem ownW_eq {a b : List (Nat × Ob)} (hb : (b.map (·.1)).Nodup) (m : Nat → Option Ob) (i : Nat) :
    updMs m (ownW a b) i = match mkM b i with | some o => some o | none => if i ∈ a.map (·.1) then none else m i := by
  unfold ownW; rw [updMs_append, updMs_somes b _ i hb, updMs_nones]

section
variable {E : Env} {C : Ctx} {s : AS} {ρ : Nat → Value} {a : Act} {w : World} {K : Act → World → Prop} {Q : Exit → Act → World → Prop}

theorem argsA (h : STr C s ρ a w) {args : Array Operand} {us : List Value} {xs : List AV} (hx : ToAs (args.toList.map s.ev ++ us.map fun u => .c (.v u)) xs) :
    (((args.map a.eval).toList ++ us : List Value)).length = xs.length ∧ ∀ (j : Nat) (y : AV), xs[j]? = some y → RepA w (LL C s.m ρ) ρ s.m (((args.map a.eval).toList ++ us : List Value).getD j undef) y := by
  have hl := hx.1
  refine ⟨by simpa using hl, fun j y hy => ?_⟩
  have hj : j < ((args.toList.map s.ev) ++ us.map fun u => AV.c (.v u)).length := by rw [hl]; exact (List.getElem?_eq_some_iff.1 hy).1
  have hto := hx.2 j _ y (List.getElem?_eq_getElem hj) hy
  refine hto.rep (ρ := ρ) (m := s.m) _ ?_
  by_cases hja : j < args.size
  · have h1 : (((args.toList.map s.ev) ++ us.map fun u => AV.c (.v u))[j]'hj) = s.ev args[j] := by
      rw [List.getElem_append_left (by simpa using hja)]; simp
    have h2 : ((args.map a.eval).toList ++ us).getD j undef = a.eval args[j] := by
      simp [List.getD, List.getElem?_append, hja]
    rw [h1, h2]; exact h.evR _
  · have hju : j - args.size < us.length := by simp at hj; omega
    have h1 : (((args.toList.map s.ev) ++ us.map fun u => AV.c (.v u))[j]'hj) = .c (.v (us[j - args.size])) := by
      rw [List.getElem_append_right (by simpa using Nat.le_of_not_lt hja)]; simp
    have h2 : ((args.map a.eval).toList ++ us).getD j undef = us[j - args.size] := by
      simp [List.getD, List.getElem?_append, hja, List.getElem?_eq_getElem hju]
    rw [h1, h2]; exact .c (.v _)

/-- A CALL THAT IS HANDED OBJECTS. -/
theorem wp_own (h : STr C s ρ a w) {callee : Operand} {args : Array Operand} {ats : Array TypeId} {f : FuncId} {us : List Value} {xs rs : List AV} {oa ob : List (Nat × Ob)}
    (hc : s.ev callee = .c (.v (.func (.func f) #[] ⟨us⟩))) (hx : ToAs (args.toList.map s.ev ++ us.map fun u => .c (.v u)) xs) (hm : ∀ p ∈ oa, s.m p.1 = some p.2) (hnb : (ob.map (·.1)).Nodup)
    (hlt : ∀ d ∈ newIds oa ob, d < 1000000) (hF : ∀ d ∈ newIds oa ob, s.noId d) (hp : Own E.P f xs oa rs ob) {o : Oper} (ho : o.op = .call { callee := .value callee, args := args, argTypes := ats })
    (hK : ∀ u w' ρ', STr C ⟨s.t, updMs s.m (ownW oa ob)⟩ ρ' a w' → RepA w' (LL C (updMs s.m (ownW oa ob)) ρ') ρ' (updMs s.m (ownW oa ob)) u (resA rs) → K (a.put o.dst u) w') : o.wp E.P a w K Q := by
  obtain ⟨fn, hf, hbd, hname⟩ := hp.body
  obtain ⟨hl, hr⟩ := argsA h hx
  have hsub : ∀ i o, mkM oa i = some o → s.m i = some o := fun i o hi => hm _ (mkM_mem hi)
  have hliv : ∀ b, live (mkM oa) ρ b → live s.m ρ b := fun b ⟨i, o, hi, hb⟩ => ⟨i, o, hsub i o hi, hb⟩
  let L : Nat → Prop := fun b => C.L0 b ∨ ∃ i o, s.m i = some o ∧ mkM oa i = none ∧ Value.blk (ρ i) = some b
  have hLb : ∀ b, L b → b < w.heap.size := by
    rintro b (hb | ⟨i, o, hi, _, hb⟩)
    · exact Nat.lt_of_lt_of_le (h.old b hb) h.keep.size
    · exact (h.own i o b hi hb).2
  have hA1 : ∀ b, L b ∨ live (mkM oa) ρ b → LL C s.m ρ b := by
    rintro b ((hb | ⟨i, o, hi, _, hb⟩) | hb)
    · exact .inl hb
    · exact .inr ⟨i, o, hi, hb⟩
    · exact .inr (hliv b hb)
  have hT : ∀ i, Turns s.m (mkM oa) ρ ρ i := by
    intro i
    cases hi : mkM oa i with
    | none => exact .inl hi
    | some o => exact .inr (.inr ⟨rfl, .inl (by rw [hi, hsub i o hi])⟩)
  have hobjs : Objs w L ρ (mkM oa) := by
    refine ⟨fun i o hi => ?_, fun i o b hi hb => ⟨?_, (h.own i o b (hsub i o hi) hb).2⟩, fun i j oi oj b hi hj => h.inj i j oi oj b (hsub _ _ hi) (hsub _ _ hj)⟩
    · exact (h.obj i o (hsub i o hi)).keep (fun b hb _ hb' => hb (hA1 b hb')) (fun _ _ _ => rfl) (fun _ _ => rfl) fun k => .inr (hT k)
    · rintro (hL | ⟨j, oj, hj, hn, hbj⟩)
      · rcases (h.own i o b (hsub i o hi) hb).1 with ht | ht
        · exact C.hT b ht hL
        · have := h.old b hL; omega
      · have := h.inj i j o oj b (hsub i o hi) hj hb hbj
        subst this; rw [hi] at hn; cases hn
  have hcall := hp.call w L ρ _ hl (fun j y hy => (hr j y hy).keep (fun b hb _ hb' => hb (hA1 b hb')) (fun _ _ _ => rfl) fun k => .inr (hT k)) hLb hobjs
  have hrun : (execOp a.eval o).run E.P w = .ok (.enter f (⟨(args.map a.eval).toList ++ us⟩)) w := by
    simp only [execOp, ho, resolve, ev_int h hc, Deferred.ofValue, Sem.run_bind, Sem.run_pure, Result.andThen_ok, invoke, callFunc, run_program, hf, hname, hbd]
    simp
  unfold Oper.wp
  rw [hrun]
  simp only [Oper.upon]
  refine hcall.mono ?_
  rintro e w' ⟨v, ρ', rfl, hres, hob, hk, hpl, hfx⟩
  -- what it has become
  let ρ'' : Nat → Value := fun k => match mkM ob k with | some _ => ρ' k | none => ρ k
  have hm' : ∀ i, updMs s.m (ownW oa ob) i = match mkM ob i with | some o => some o | none => if i ∈ oa.map (·.1) then none else s.m i := ownW_eq hnb s.m
  have hρs : ∀ {i o}, mkM ob i = some o → ρ'' i = ρ' i := fun {i o} hi => by simp only [ρ'', hi]
  have hρn : ∀ {i}, mkM ob i = none → ρ'' i = ρ i := fun {i} hi => by simp only [ρ'', hi]
  have hcase : ∀ i o, updMs s.m (ownW oa ob) i = some o → (mkM ob i = some o) ∨ (mkM ob i = none ∧ mkM oa i = none ∧ s.m i = some o) := by
    intro i o hi
    rw [hm'] at hi
    cases hb : mkM ob i with
    | some o' => rw [hb] at hi; cases hi; exact .inl rfl
    | none =>
      rw [hb] at hi
      simp only at hi
      split at hi
      · cases hi
      · rename_i hn; exact .inr ⟨rfl, mkM_none.2 hn, hi⟩
  have hnew : ∀ i o, mkM ob i = some o → mkM oa i = none → s.noId i := fun i o hi hn =>
    hF i (mem_newIds.2 ⟨List.mem_map.2 ⟨_, mkM_mem hi, rfl⟩, mkM_none.1 hn⟩)
  have hTT : ∀ i, (mkM oa i = none ∧ ∃ o, mkM ob i = some o) ∨ Turns s.m (updMs s.m (ownW oa ob)) ρ ρ'' i := by
    intro i
    cases hb : mkM ob i with
    | some o' =>
      cases ha : mkM oa i with
      | none => exact .inl ⟨rfl, o', rfl⟩
      | some o =>
        have hlk := hp.like i o o' ha hb
        have h1 : updMs s.m (ownW oa ob) i = some o' := by rw [hm', hb]
        refine .inr (.inr (.inr ⟨by rw [hρs hb]; exact hfx i o o' ha hb, ?_⟩))
        cases o <;> cases o' <;> simp only [Ob.like] at hlk
        · exact .inr (.inl ⟨_, _, hsub _ _ ha, h1⟩)
        · obtain ⟨rfl, hl⟩ := hlk
          exact .inr (.inr ⟨_, _, _, _, _, hsub _ _ ha, h1, hl⟩)
    | none =>
      refine .inr ?_
      by_cases hi : i ∈ oa.map (·.1)
      · exact .inl (by rw [hm', hb]; simp only [if_pos hi])
      · exact .inr (.inr ⟨hρn hb, .inl (by rw [hm', hb]; simp only [if_neg hi])⟩)
  have hTn : ∀ i, s.noId i ∨ Turns s.m (updMs s.m (ownW oa ob)) ρ ρ'' i := by
    intro i
    rcases hTT i with ⟨hn, o, ho⟩ | ht
    · exact .inl (hnew i o ho hn)
    · exact .inr ht
  have hLL : ∀ b, LL C (updMs s.m (ownW oa ob)) ρ'' b → L b ∨ live (mkM ob) ρ' b := by
    rintro b (hb | ⟨i, o, hi, hb⟩)
    · exact .inl (.inl hb)
    · rcases hcase i o hi with hi' | ⟨h1, h2, h3⟩
      · rw [hρs hi'] at hb; exact .inr ⟨i, o, hi', hb⟩
      · rw [hρn h1] at hb; exact .inl (.inr ⟨i, o, h3, h2, hb⟩)
  have hTb : ∀ k, (k ∉ oa.map (·.1) ∧ k ∉ ob.map (·.1)) ∨ Turns (mkM ob) (updMs s.m (ownW oa ob)) ρ' ρ'' k := by
    intro k
    cases hb : mkM ob k with
    | some o => exact .inr (.inr (.inr ⟨hρs hb, .inl (by rw [hm', hb])⟩))
    | none =>
      by_cases hi : k ∈ oa.map (·.1)
      · exact .inr (.inl (by rw [hm', hb]; simp only [if_pos hi]))
      · exact .inl ⟨hi, mkM_none.1 hb⟩
  have hst : STr C ⟨s.t, updMs s.m (ownW oa ob)⟩ ρ'' a w' := by
    refine h.turn (hk.mono fun b _ hb => hliv b hb) ?_ (fun i => ?_) ?_ ?_ ?_ ?_
    · rintro b ⟨i, o, hi, hb⟩
      rcases hcase i o hi with hi' | ⟨h1, h2, h3⟩
      · rw [hρs hi'] at hb
        rcases hpl i o b hi' hb with hh | hh
        · exact .inl (hliv b hh)
        · exact .inr hh
      · rw [hρn h1] at hb; exact .inl ⟨i, o, h3, hb⟩
    · rcases hTn i with hh | hh
      · exact .inl hh.1
      · exact .inr hh
    · intro hL' hw i o hi
      rcases hcase i o hi with hi' | ⟨h1, h2, h3⟩
      · rw [hρs hi']
        refine (hob.obj i o hi').keep (fun b hb _ hb' => hb (hLL b hb')) (fun _ _ _ => rfl) (fun _ _ => rfl) fun k => ?_
        rcases hTb k with ⟨k1, k2⟩ | hh
        · exact .inl ((hp.clo k k1 k2).2 _ (mkM_mem hi'))
        · exact .inr hh
      · rw [hρn h1]
        refine (h.obj i o h3).keep hL' hw (fun b hb => hk.block b (h.own i o b h3 hb).2 ?_) fun k => ?_
        · rintro ⟨j, oj, hj, hbj⟩
          have := h.inj i j o oj b h3 (hsub j oj hj) hb hbj
          subst this; rw [h2] at hj; cases hj
        · rcases hTn k with hh | hh
          · exact .inl (hh.2 i o h3)
          · exact .inr hh
    · intro i o b hi hb
      rcases hcase i o hi with hi' | ⟨h1, h2, h3⟩
      · rw [hρs hi'] at hb
        refine ⟨?_, (hob.own i o b hi' hb).2⟩
        rcases hpl i o b hi' hb with ⟨j, oj, hj, hbj⟩ | hh
        · exact (h.own j oj b (hsub j oj hj) hbj).1
        · have := h.keep.size; exact .inr (by omega)
      · rw [hρn h1] at hb
        have := h.own i o b h3 hb
        have := hk.size
        exact ⟨(h.own i o b h3 hb).1, by omega⟩
    · have mix : ∀ i j oi oj b, mkM ob i = some oi → mkM oa j = none → s.m j = some oj → Value.blk (ρ' i) = some b → Value.blk (ρ j) = some b → False := fun i j oi oj b hi hj1 hj2 hbi hbj =>
        (hob.own i oi b hi hbi).1 (.inr ⟨j, oj, hj2, hj1, hbj⟩)
      intro i j oi oj b hi hj hbi hbj
      rcases hcase i oi hi with hi' | ⟨h1, h2, h3⟩
      · rw [hρs hi'] at hbi
        rcases hcase j oj hj with hj' | ⟨g1, g2, g3⟩
        · rw [hρs hj'] at hbj; exact hob.inj i j oi oj b hi' hj' hbi hbj
        · rw [hρn g1] at hbj; exact (mix i j oi oj b hi' g2 g3 hbi hbj).elim
      · rw [hρn h1] at hbi
        rcases hcase j oj hj with hj' | ⟨g1, g2, g3⟩
        · rw [hρs hj'] at hbj; exact (mix j i oj oi b hj' h2 h3 hbj hbi).elim
        · rw [hρn g1] at hbj; exact h.inj i j oi oj b h3 g3 hbi hbj
    · intro i hi
      cases hb : mkM ob i with
      | none => exact hρn hb
      | some o' =>
        cases ha : mkM oa i with
        | none =>
          have := hlt i (mem_newIds.2 ⟨List.mem_map.2 ⟨_, mkM_mem hb, rfl⟩, mkM_none.1 ha⟩)
          omega
        | some o => rw [hρs hb]; exact hfx i o o' ha hb
  refine hK v w' ρ'' hst (hres.repA.keep (fun b hb _ hb' => hb (hLL b hb')) (fun _ _ _ => rfl) fun k => ?_)
  rcases hTb k with ⟨k1, k2⟩ | hh
  · refine .inl ?_
    have := (hp.clo k k1 k2).1
    unfold resA
    split
    · exact this _ (by simp)
    · exact .tup fun j y hy => this y (List.mem_of_getElem? hy)
  · exact .inr hh
end
end Go.AM

/- The abstract machine, part 22: parts of rows of one's own: how they are cut, joined, cleared. It speaks of whatever program. -/
namespace Go.AM
open Go Go.RowKit
set_option linter.unusedVariables false
set_option linter.unusedSimpArgs false

section
variable {P : Program} (w : World)

theorem run_append_roomV (t ty e : TypeId) (i : TypeInfo) (ht : P.underlying t = some (.slice e)) (hi : P.info? e = some i)
    (g of sLen sCap : Nat) (cur : Array Value) (hg : w.heap[g]? = some (.cells cur e (0, 0)))
    (x : Value) (m : Nat) (news : List Value) (hm : Builtin.lenOf x = pure m) (hf : (Builtin.firstCells i.size m x).run P w = .ok news.toArray w) (hxi : ∀ k, x ≠ .int k 0) (h1 : ∀ u ∈ news, u.oneCell' = true)
    (hroom : sLen + m ≤ sCap) (hfit : of + sLen * i.size + news.length ≤ cur.size) :
    (Builtin.append_ #[t, t] ty #[.slice (some ⟨g, of, none⟩) sLen sCap, x]).run P w =
      .ok (.slice (some ⟨g, of, none⟩) (sLen + m) sCap) (w.setRow g (cur.toList.take (of + sLen * i.size) ++ news ++ cur.toList.drop (of + sLen * i.size + news.length)).toArray) := by
  have hst := run_storeCells_at P g (of + sLen * i.size) e news 0 cur w hg (by simpa using hfit) h1
  simp only [Nat.add_zero] at hst
  simp [Builtin.append_, run_underlying ht, sizeOf, typeInfo, hi, hm, hroom, hf, Addr.add_lit, hst]

/-- 'append' to a row of one's own, or to a part of one. -/
theorem run_append_ownsV (t ty e : TypeId) (i : TypeInfo) (z : Value) (size bytes : Nat) (ht : P.underlying t = some (.slice e)) (hi : P.info? e = some i) (hz : i.zero = some z)
    (hsize : i.size = size) (hby : i.bytes = bytes) (hzs : z.cells.size = size) (hsz : 0 < size)
    (v : Value) (n : Nat) (xs : List Value) (hown : ownsV w e size v n xs)
    (a : Addr) (m c : Nat) (news : List Value) (hl : news.length = m * size) (hnews : ∀ j u, news[j]? = some u → w.cell? (a.add j) = some u) (h1 : ∀ u ∈ news, u.oneCell' = true)
    (h63 : n + m ≤ maxLen) (hbytes : (n + m) * bytes ≤ 140737488355328) :
    ∃ v' w', (Builtin.append_ #[t, t] ty #[v, .slice (some a) m c]).run P w = .ok v' w' ∧ ownsV w' e size v' (n + m) (xs ++ news) ∧ w.grownBy w' v.ownBlock ∧
      (v'.ownBlock = v.ownBlock ∨ v'.ownBlock = some w.heap.size) := by
  rcases hown.2 with ⟨rfl, rfl⟩ | ⟨g, of, cap, cur, rfl, hg, hnc, hcm, hcs, htake⟩
  · have hx : xs = [] := List.eq_nil_of_length_eq_zero (by simpa using hown.1)
    subst hx
    obtain ⟨v', w', h2, h3, h4, _, h5⟩ := run_append_own_at (P := P) w 0 t ty e i z size bytes ht hi hz hsize hby hzs hsz _ 0 [] (World.ownsRow_nil w 0 e size) a m c news hl hnews h1 h63 hbytes (Nat.zero_le _)
    exact ⟨v', w', h2, ownsV_of h3, h4, h5⟩
  subst hsize
  subst hby
  have hsmall : n + m ≤ 9223372036854775807 := by simp only [maxLen] at h63; omega
  have hlen : (xs ++ news).length = (n + m) * i.size := by rw [List.length_append, hown.1, hl, Nat.add_mul]
  have hof : of ≤ cur.size := by omega
  have hns : n * i.size ≤ cap * i.size := Nat.mul_le_mul_right _ hnc
  by_cases hroom : n + m ≤ cap
  · have hfit : of + n * i.size + news.length ≤ cur.size := by
      have : (n + m) * i.size ≤ cap * i.size := Nat.mul_le_mul_right _ hroom
      rw [Nat.add_mul] at this; rw [hl]; omega
    have hr := run_append_roomV (P := P) w t ty e i ht hi g of n cap cur hg (.slice (some a) m c) m news rfl (run_firstCells_some (P := P) w i.size m a m c news hl hnews) (fun k h => by cases h) h1 hroom hfit
    refine ⟨_, _, hr, ⟨hlen, .inr ⟨g, of, cap, _, rfl, setRow_heap w g cur _ e _ hg, hroom, hcm, ?_, ?_⟩⟩, ⟨rfl, rfl, rfl, by simp, fun k _ hk => setRow_other w g k _ (fun e => hk (by simp [Value.ownBlock, e]))⟩, Or.inl rfl⟩
    · simp only [List.size_toArray, List.length_append, List.length_take, List.length_drop, Array.length_toList]
      omega
    · rw [← hlen, List.length_append, ← htake]
      have hxl : ((cur.toList.drop of).take (n * i.size)).length = n * i.size := by simp; omega
      apply List.ext_getElem?
      intro q
      simp only [List.getElem?_take, List.getElem?_drop, List.getElem?_append, List.length_append, List.length_take, List.length_drop, Array.length_toList, hxl]
      repeat' split
      all_goals first | rfl | omega | (congr 1; omega) | (rw [List.getElem?_eq_none (by omega)])
  · have holds : ∀ j u, xs[j]? = some u → w.cell? ((⟨g, of, none⟩ : Addr).add j) = some u := by
      intro j u hu
      rw [Addr.add_lit, cell_of_row w g (of + j) cur e (0, 0) hg]
      rw [← htake, List.getElem?_take] at hu
      split at hu
      · rw [List.getElem?_drop] at hu; simpa using hu
      · cases hu
    have hr := run_append_grow (P := P) w t ty e i z ht hi hz ⟨g, of, none⟩ n cap xs hown.1 holds a m c news hl hnews (by omega) (by omega) (growslice_fits (by omega) hbytes)
    refine ⟨_, _, hr, ownsV_of (base_grown w n m cap e i z xs news hzs hown.1 hl h63), ⟨rfl, rfl, rfl, by simp, fun k hk _ => heap_alloc_old w.drew _ k hk⟩, Or.inr rfl⟩
where
  base_grown (w : World) (n m cap : Nat) (e : TypeId) (i : TypeInfo) (z : Value) (xs news : List Value) (hzs : z.cells.size = i.size) (hx : xs.length = n * i.size) (hl : news.length = m * i.size) (h63 : n + m ≤ maxLen) :
      (w.drew.alloc (.cells (xs.toArray ++ news.toArray ++ Builtin.zeroCells z.cells (grownCap w (n + m) cap e - (n + m))) e)).ownsRow 0 e i.size
        (.slice (some ⟨w.heap.size, 0, none⟩) (n + m) (grownCap w (n + m) cap e)) (n + m) (xs ++ news) := by
    have hlen : (xs ++ news).length = (n + m) * i.size := by rw [List.length_append, hx, hl, Nat.add_mul]
    have hge := grownCap_ge w (n + m) cap e
    have hcm : grownCap w (n + m) cap e ≤ maxLen := grownCap_le_maxLen w (n + m) cap e h63
    refine ⟨hlen, .inr ⟨w.heap.size, _, _, rfl, Nat.zero_le _, heap_alloc_new w.drew _, hge, hcm, ?_, ?_⟩⟩
    · simp only [Array.size_append, List.size_toArray, size_zeroCells, hzs, hx, hl, ← Nat.add_mul]
      congr 1
      omega
    · simp only [Array.toList_append, List.append_assoc]
      rw [← List.append_assoc, ← hlen]
      exact List.take_left
end

section
variable {E : Env} {w : World}
/-- A slice is cut. -/
theorem run_cut {t e : TypeId} {d de : TD} (ht : E.Ty t = some d) (hd : d.desc = .slice e) (he : E.Ty e = some de) (p : Option Addr) (len cap : Nat) (lo hi mx : Option Value) (l h : Nat) (c : Option Nat)
    (hlo : match lo with | some v => ∃ k n, v = Value.int k n ∧ 0 ≤ n ∧ n.toNat = l | none => l = 0) (hhi : match hi with | some v => ∃ k n, v = Value.int k n ∧ 0 ≤ n ∧ n.toNat = h | none => h = len ∧ mx = none)
    (hmx : match mx with | some v => ∃ k n, v = Value.int k n ∧ 0 ≤ n ∧ c = some n.toNat | none => c = none) (hlh : l ≤ h) (hhc : h ≤ c.getD cap) (hcc : c.getD cap ≤ cap) :
    (Instr.sliceAt t (.slice p len cap) lo hi mx).run E.P w = .ok (.slice (if c.getD cap = l then p else p.map (·.add (l * de.sz))) (h - l) (c.getD cap - l)) w := by
  have hu := Env.und ht; rw [hd] at hu
  have hb : (Instr.sliceBounds true len cap lo hi mx).run E.P w = .ok (l, h, c.getD cap) w := by
    unfold Instr.sliceBounds
    cases mx with
    | none =>
      simp only at hmx; subst hmx
      simp only [Option.getD_none] at hhc hcc ⊢
      cases hi with
      | none =>
        obtain ⟨rfl, _⟩ := hhi
        cases lo with
        | none => simp only at hlo; subst hlo; simp
        | some q =>
          obtain ⟨k, n, rfl, h0, rfl⟩ := hlo
          simp [Instr.sliceBound, asIntOf, h0, show n ≤ (h : Int) by omega]
      | some q =>
        obtain ⟨k, n, rfl, h0, rfl⟩ := hhi
        cases lo with
        | none => simp only at hlo; subst hlo; simp [Instr.sliceBound, asIntOf, h0, show n ≤ (cap : Int) by omega]
        | some q' =>
          obtain ⟨k', n', rfl, h0', rfl⟩ := hlo
          simp [Instr.sliceBound, asIntOf, h0, h0', show n ≤ (cap : Int) by omega, show n' ≤ n by omega]
          intro hlt; omega
    | some m =>
      obtain ⟨km, nm, rfl, hm0, rfl⟩ := hmx
      simp only [Option.getD_some] at hhc hcc ⊢
      cases hi with
      | none => exact absurd hhi.2 (by simp)
      | some q =>
        obtain ⟨k, n, rfl, h0, rfl⟩ := hhi
        cases lo with
        | none =>
          simp only at hlo; subst hlo
          simp [Instr.sliceBound, asIntOf, h0, hm0, show nm ≤ (cap : Int) by omega, show n ≤ nm by omega]
          intro hlt; omega
        | some q' =>
          obtain ⟨k', n', rfl, h0', rfl⟩ := hlo
          simp [Instr.sliceBound, asIntOf, h0, h0', hm0, show nm ≤ (cap : Int) by omega, show n ≤ nm by omega, show n' ≤ n by omega]
          rw [if_pos (by omega), if_pos (by omega)]
  simp only [Instr.sliceAt, Sem.run_bind, run_underlying hu, Result.andThen_ok]
  simp only [Instr.slice, Sem.run_bind, run_underlying hu, Result.andThen_ok, hb, Env.size he, Sem.run_pure]
end
/-! ### cells by elements -/
def CV.one : CV → Bool
  | .v u => u.oneCell'
  | .agg _ => false
  | _ => true
theorem CV.one_sound {w : World} {L : Nat → Prop} {v : Value} {x : CV} (h : Rep w L v x) (ho : x.one = true) : v.oneCell' = true := by
  cases h <;> first | exact ho | rfl | cases ho
def Elems (w : World) (L : Nat → Prop) (sz : Nat) (xs : List CV) (vs : List Value) : Prop :=
  vs.length = xs.length * sz ∧ ∀ (i : Nat) (x : CV), xs[i]? = some x → x.cells.length = sz ∧ ∀ (j : Nat) (y : CV), x.cells[j]? = some y → Rep w L (vs.getD (i * sz + j) undef) y
section
variable {w : World} {L : Nat → Prop} {sz : Nat} {xs ys : List CV} {vs us : List Value}
theorem Elems.lt (h : Elems w L sz xs vs) {i : Nat} {x : CV} (hx : xs[i]? = some x) {j : Nat} (hj : j < sz) : i * sz + j < vs.length := by
  have hi := (List.getElem?_eq_some_iff.1 hx).1
  rw [h.1]
  calc i * sz + j < i * sz + sz := by omega
    _ = (i + 1) * sz := by rw [Nat.succ_mul]
    _ ≤ _ := Nat.mul_le_mul_right _ hi
theorem Elems.append (h : Elems w L sz xs vs) (k : Elems w L sz ys us) : Elems w L sz (xs ++ ys) (vs ++ us) := by
  refine ⟨by rw [List.length_append, List.length_append, h.1, k.1, Nat.add_mul], fun i x hx => ?_⟩
  rw [List.getElem?_append] at hx
  split at hx
  · rename_i hi
    obtain ⟨ha, hb⟩ := h.2 i x hx
    refine ⟨ha, fun j y hy => ?_⟩
    have hj : j < sz := by rw [← ha]; exact (List.getElem?_eq_some_iff.1 hy).1
    have hlt := h.lt hx hj
    have e : (vs ++ us).getD (i * sz + j) undef = vs.getD (i * sz + j) undef := by simp only [List.getD, List.getElem?_append, if_pos hlt]
    rw [e]; exact hb j y hy
  · rename_i hi
    obtain ⟨ha, hb⟩ := k.2 _ x hx
    refine ⟨ha, fun j y hy => ?_⟩
    have hge : xs.length * sz ≤ i * sz := Nat.mul_le_mul_right _ (by omega)
    have hn : ¬ i * sz + j < vs.length := by rw [h.1]; omega
    have e : (vs ++ us).getD (i * sz + j) undef = us.getD ((i - xs.length) * sz + j) undef := by
      simp only [List.getD, List.getElem?_append, if_neg hn]
      rw [h.1, Nat.sub_mul]; congr 2; omega
    rw [e]; exact hb j y hy
theorem Elems.take (h : Elems w L sz xs vs) {k : Nat} (hk : k ≤ xs.length) : Elems w L sz (xs.take k) (vs.take (k * sz)) := by
  have hks : k * sz ≤ xs.length * sz := Nat.mul_le_mul_right _ hk
  refine ⟨by rw [List.length_take, List.length_take, h.1, Nat.min_eq_left hks, Nat.min_eq_left hk], fun i x hx => ?_⟩
  rw [List.getElem?_take] at hx
  split at hx
  · rename_i hi
    obtain ⟨ha, hb⟩ := h.2 i x hx
    refine ⟨ha, fun j y hy => ?_⟩
    have hj : j < sz := by rw [← ha]; exact (List.getElem?_eq_some_iff.1 hy).1
    have hlt : i * sz + j < k * sz := by
      calc i * sz + j < i * sz + sz := by omega
        _ = (i + 1) * sz := by rw [Nat.succ_mul]
        _ ≤ _ := Nat.mul_le_mul_right _ hi
    have e : (vs.take (k * sz)).getD (i * sz + j) undef = vs.getD (i * sz + j) undef := by simp only [List.getD, List.getElem?_take, if_pos hlt]
    rw [e]; exact hb j y hy
  · cases hx
theorem Elems.drop (h : Elems w L sz xs vs) {k : Nat} (hk : k ≤ xs.length) : Elems w L sz (xs.drop k) (vs.drop (k * sz)) := by
  refine ⟨by rw [List.length_drop, List.length_drop, h.1, Nat.sub_mul], fun i x hx => ?_⟩
  rw [List.getElem?_drop] at hx
  obtain ⟨ha, hb⟩ := h.2 _ x hx
  refine ⟨ha, fun j y hy => ?_⟩
  have e : (vs.drop (k * sz)).getD (i * sz + j) undef = vs.getD ((k + i) * sz + j) undef := by
    simp only [List.getD, List.getElem?_drop]; rw [Nat.add_mul]; congr 2; omega
  rw [e]; exact hb j y hy
theorem Elems.ones (h : Elems w L sz xs vs) (h0 : 0 < sz) (h1 : ∀ y ∈ xs, ∀ c ∈ y.cells, c.one = true) : ∀ u ∈ vs, u.oneCell' = true := by
  intro u hu
  obtain ⟨q, hq⟩ := List.mem_iff_getElem?.1 hu
  have hlt := (List.getElem?_eq_some_iff.1 hq).1
  rw [h.1] at hlt
  have hd : q / sz < xs.length := by rw [Nat.div_lt_iff_lt_mul h0]; exact hlt
  have hm : q % sz < sz := Nat.mod_lt _ h0
  have hx := List.getElem?_eq_getElem hd
  obtain ⟨hc, hr⟩ := h.2 _ _ hx
  have hj : q % sz < (xs[q / sz]).cells.length := by rw [hc]; exact hm
  have := hr _ _ (List.getElem?_eq_getElem hj)
  rw [show q / sz * sz + q % sz = q by rw [Nat.mul_comm]; exact Nat.div_add_mod q sz, show vs.getD q undef = u by simp [List.getD, hq]] at this
  exact CV.one_sound this (h1 _ (List.getElem_mem hd) _ (List.getElem_mem hj))
theorem Elems.zeros {z : Value} {x0 : CV} (n : Nat) (hz : z.cells.size = sz) (h0 : 0 < sz) (hx : x0.cells = z.cells.toList.map .v) : Elems w L sz (List.replicate n x0) (Builtin.zeroCells z.cells n).toList := by
  refine ⟨by simp [Builtin.zeroCells, hz], fun i x hi => ?_⟩
  obtain ⟨hil, hie⟩ := List.getElem?_eq_some_iff.1 hi
  simp at hil hie; subst hie
  refine ⟨by rw [hx]; simp [hz], fun j y hy => ?_⟩
  have hj : j < sz := by have := (List.getElem?_eq_some_iff.1 hy).1; rw [hx] at this; simpa [hz] using this
  have hlt : i * sz + j < n * sz := by
    calc i * sz + j < i * sz + sz := by omega
      _ = (i + 1) * sz := by rw [Nat.succ_mul]
      _ ≤ _ := Nat.mul_le_mul_right _ hil
  have hjz : j < z.cells.size := by omega
  have e : (Builtin.zeroCells z.cells n).toList.getD (i * sz + j) undef = z.cells[j] := by
    have hm : (i * sz + j) % sz = j := by rw [Nat.mul_comm, Nat.mul_add_mod, Nat.mod_eq_of_lt hj]
    simp [Builtin.zeroCells, List.getD, hz, hlt, hm, hjz, getElem!_pos z.cells j hjz]
  rw [e]
  rw [hx, List.getElem?_map] at hy
  have : z.cells.toList[j]? = some z.cells[j] := by simp [hjz]
  rw [this] at hy; simp at hy; subst hy
  exact .v _
end

section
variable {C : Ctx} {s : AS} {ρ : Nat → Value} {a : Act} {w : World}
/-- Cells of a row of one's own are written over. -/
theorem STr.splice (h : STr C s ρ a w) {i sz e : Nat} {xs xs' : List CV} (hm : s.m i = some (.arr sz e xs)) (h0 : 0 < sz) {g of cap : Nat} {cur : Array Value} (hρ : ρ i = .slice (some ⟨g, of, none⟩) xs.length cap) (hgg : w.heap[g]? = some (.cells cur e (0, 0)))
    (hnc : xs.length ≤ cap) (hcm : cap ≤ maxLen) (hcs : of + cap * sz ≤ cur.size) {vs : List Value} (htake : (cur.toList.drop of).take (xs.length * sz) = vs) (p : Nat) (news : List Value) (hfit : p + news.length ≤ xs.length * sz) (hl : xs'.length = xs.length)
    (hx : Elems w (LL C s.m ρ) sz xs' (vs.take p ++ news ++ vs.drop (p + news.length))) :
    STr C ⟨s.t, updM s.m i (some (.arr sz e xs'))⟩ ρ a (w.setRow g (cur.toList.take (of + p) ++ news ++ cur.toList.drop (of + p + news.length)).toArray) := by
  have hns : xs.length * sz ≤ cap * sz := Nat.mul_le_mul_right _ hnc
  refine h.write i (.arr sz e xs) (.arr sz e xs') hm (b := g) (by rw [hρ]; rfl) ⟨rfl, rfl, rfl, by simp, fun k _ hk => setRow_other w g k _ hk⟩ (.inr ⟨_, _, _, _, _, rfl, rfl, hl.symm⟩) fun hmv hmc => ?_
  refine ⟨h0, vs.take p ++ news ++ vs.drop (p + news.length), ⟨hx.1, .inr ⟨g, of, cap, _, by rw [hρ, hl], setRow_heap w g cur _ e _ hgg, by omega, hcm, ?_, ?_⟩⟩, fun k x hk => ⟨(hx.2 k x hk).1, fun j y hy => hmc _ _ ((hx.2 k x hk).2 j y hy)⟩⟩
  · simp; omega
  · rw [hl, ← htake]
    have hxl : ((cur.toList.drop of).take (xs.length * sz)).length = xs.length * sz := by simp; omega
    apply List.ext_getElem?
    intro q
    simp only [List.getElem?_take, List.getElem?_drop, List.getElem?_append, List.length_append, List.length_take, List.length_drop, Array.length_toList, hxl]
    repeat' split
    all_goals first | rfl | omega | (congr 1; omega) | (rw [List.getElem?_eq_none (by simp; omega)])
end
end Go.AM
