/- The abstract machine, part 1: abstract values and what it means that a value in a world reads as one. It speaks of whatever program. -/
import Derived.Orders
import Derived.Below
import Derived.Laws.Cells
import Derived.Laws.CopyRow
import Derived.Laws.IdiomCopy
import Derived.Laws.Entries
namespace Go.AM
open Go Go.RowKit
set_option linter.unusedVariables false

/-- Content: what a value reads as, to the bottom. -/
inductive CV where
  | v (x : Value)
  | fl (b : Nat)
  | sl (sz : Nat) (xs : List CV)
  | ad (cs : List CV)
  | agg (cs : List CV)
  | fn (f : FuncId) (cs : List CV)
  deriving Inhabited

def CV.cells : CV → List CV
  | .agg cs => cs
  | x => [x]

/-- A float up to a NaN's bits. -/
def fnan (b : Nat) : Prop := FloatKind.f64.format.order b b = none
def flRel (b c : Nat) : Prop := b = c ∨ (fnan b ∧ fnan c)
theorem flRel.refl (b : Nat) : flRel b b := .inl rfl

inductive Rep (w : World) (L : Nat → Prop) : Value → CV → Prop where
  | v (x : Value) : Rep w L x (.v x)
  | fl {b c : Nat} (h : flRel b c) : Rep w L (.float .f64 b) (.fl c)
  | sl {sz : Nat} {xs : List CV} {cap n : Nat} {a : Option Addr} (g : Nat → Nat → Value) (hn : n = xs.length) (hcap : n ≤ cap) (hmax : cap ≤ maxLen) (hsz : 0 < sz)
      (ha : 0 < n → ∃ b o, a = some ⟨b, o, none⟩ ∧ ¬ L b ∧ ∀ i, i < n → ∀ j, j < sz → w.cell? ⟨b, o + (i * sz + j), none⟩ = some (g i j))
      (hlen : ∀ (i : Nat) (x : CV), xs[i]? = some x → x.cells.length = sz)
      (hx : ∀ (i : Nat) (x : CV), xs[i]? = some x → ∀ (j : Nat) (y : CV), x.cells[j]? = some y → Rep w L (g i j) y) :
      Rep w L (.slice a n cap) (.sl sz xs)
  | ad {b o : Nat} {cs : List CV} (g : Nat → Value) (hb : ¬ L b) (h0 : 0 < cs.length) (ha : ∀ j, j < cs.length → w.cell? ⟨b, o + j, none⟩ = some (g j))
      (hx : ∀ (j : Nat) (y : CV), cs[j]? = some y → Rep w L (g j) y) : Rep w L (.pointer (some ⟨b, o, none⟩)) (.ad cs)
  | agg {vs : List Value} {cs : List CV} (hn : vs.length = cs.length) (hx : ∀ (j : Nat) (y : CV), cs[j]? = some y → Rep w L (vs.getD j undef) y) : Rep w L (.agg ⟨vs⟩) (.agg cs)
  | fn {f : FuncId} {vs : List Value} {cs : List CV} (hn : vs.length = cs.length) (hx : ∀ (j : Nat) (y : CV), cs[j]? = some y → Rep w L (vs.getD j undef) y) : Rep w L (.func (.func f) #[] ⟨vs⟩) (.fn f cs)

/-- What is outside L reads as it did: so does all whose cells lie outside. -/
theorem Rep.keep {w w' : World} {L L' : Nat → Prop} {v : Value} {x : CV} (h : Rep w L v x) (hL : ∀ b, ¬ L b → b < w.heap.size → ¬ L' b)
    (hw : ∀ b, ¬ L b → b < w.heap.size → w'.heap[b]? = w.heap[b]?) : Rep w' L' v x := by
  have hc : ∀ b o u, ¬ L b → w.cell? ⟨b, o, none⟩ = some u → ¬ L' b ∧ w'.cell? ⟨b, o, none⟩ = some u := by
    intro b o u hb hu
    have hlt := World.block_lt_of_cell? w _ hu
    exact ⟨hL b hb hlt, by rw [World.cell?_of_block (w := w) (hw b hb hlt)]; exact hu⟩
  induction h with
  | v x => exact .v x
  | fl h => exact .fl h
  | sl g hn hcap hmax hsz ha hlen hx ih =>
    rename_i sz xs cap n a
    refine .sl g hn hcap hmax hsz ?_ hlen ih
    intro h0
    obtain ⟨b, o, rfl, hb, hcell⟩ := ha h0
    exact ⟨b, o, rfl, (hc b _ _ hb (hcell 0 h0 0 hsz)).1, fun i hi j hj => (hc b _ _ hb (hcell i hi j hj)).2⟩
  | ad g hb h0 ha hx ih =>
    exact .ad g (hc _ _ _ hb (ha 0 h0)).1 h0 (fun j hj => (hc _ _ _ hb (ha j hj)).2) ih
  | agg hn hx ih => exact .agg hn ih
  | fn hn hx ih => exact .fn hn ih
end Go.AM
