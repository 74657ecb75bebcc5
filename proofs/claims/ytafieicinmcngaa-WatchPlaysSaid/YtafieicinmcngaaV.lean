/- api.Value as a plain tree, and what it reads as. It speaks of whatever program. -/
import Derived.Test.YtafieicinmcngaaM19
namespace Go.AM
open Go Go.RowKit
set_option linter.unusedVariables false

inductive V where
  | mk (kind i : Int) (f : Nat) (s : ByteArray) (l : List V)
namespace V
def kind : V → Int | mk k _ _ _ _ => k
def i : V → Int | mk _ i _ _ _ => i
def f : V → Nat | mk _ _ f _ _ => f
def s : V → ByteArray | mk _ _ _ s _ => s
def l : V → List V | mk _ _ _ _ l => l
mutual
def cv : V → CV
  | mk k i f s l => .agg [.v (.int .i64 k), .v (.int .i64 i), .fl f, .v (.string s), .sl 5 (cvs l)]
def cvs : List V → List CV
  | [] => []
  | x :: r => cv x :: cvs r
end
mutual
def nodes : V → Nat
  | mk _ _ _ _ l => 1 + nodess l
def nodess : List V → Nat
  | [] => 0
  | x :: r => nodes x + nodess r
end
theorem cvs_eq (l : List V) : cvs l = l.map cv := by
  induction l with
  | nil => simp [cvs]
  | cons x r ih => simp [cvs, ih]
theorem cv_eq (v : V) : v.cv = .agg [.v (.int .i64 v.kind), .v (.int .i64 v.i), .fl v.f, .v (.string v.s), .sl 5 (v.l.map cv)] := by
  cases v; simp [cv, cvs_eq, kind, i, f, s, l]
attribute [irreducible] cv
theorem nodes_mem {x : V} : ∀ {l : List V}, x ∈ l → x.nodes ≤ nodess l
  | [], h => by simp at h
  | y :: r, h => by
    rcases List.mem_cons.1 h with rfl | h
    · simp [nodess]
    · have := nodes_mem h; simp [nodess]; omega
theorem nodes_lt {v x : V} (h : x ∈ v.l) : x.nodes < v.nodes := by
  cases v with
  | mk k i f s l => have := nodes_mem (l := l) h; simp [nodes]; omega
theorem eta (v : V) : mk v.kind v.i v.f v.s v.l = v := by cases v; rfl
@[simp] theorem kind_mk (a b : Int) (c : Nat) (d : ByteArray) (e : List V) : (mk a b c d e).kind = a := rfl
@[simp] theorem i_mk (a b : Int) (c : Nat) (d : ByteArray) (e : List V) : (mk a b c d e).i = b := rfl
@[simp] theorem f_mk (a b : Int) (c : Nat) (d : ByteArray) (e : List V) : (mk a b c d e).f = c := rfl
@[simp] theorem s_mk (a b : Int) (c : Nat) (d : ByteArray) (e : List V) : (mk a b c d e).s = d := rfl
@[simp] theorem l_mk (a b : Int) (c : Nat) (d : ByteArray) (e : List V) : (mk a b c d e).l = e := rfl

/-- Its cells, as a variable holds them. -/
def ca (v : V) : List AV := [.c (.v (.int .i64 v.kind)), .c (.v (.int .i64 v.i)), .c (.fl v.f), .c (.v (.string v.s)), .c (.sl 5 (v.l.map cv))]
/-- Its cells, as read in place. -/
def cc (v : V) : List CV := [.v (.int .i64 v.kind), .v (.int .i64 v.i), .fl v.f, .v (.string v.s), .sl 5 (v.l.map cv)]
theorem cells_cv (v : V) : (cv v).cells = v.cc := by rw [cv_eq]; rfl
theorem cells_len (v : V) : (cv v).cells.length = 5 := by rw [cells_cv]; rfl
theorem plain (v : V) : (cv v).plain = true := by rw [cv_eq]; rfl
theorem one (v : V) : ∀ c ∈ (cv v).cells, c.one = true := by
  rw [cells_cv]; intro c hc; simp [cc] at hc; rcases hc with rfl | rfl | rfl | rfl | rfl <;> rfl
end V

theorem Cells.cv {m : Nat → Option Ob} (v : V) : Cells m (.c v.cv) v.ca [] := by rw [V.cv_eq]; exact Cells.cagg _
theorem LeC.V5 {k i : Int} {s : ByteArray} {F L : CV} {f : Nat} {l : List V} (hF : LeC F (.fl f)) (hL : LeC L (.sl 5 (l.map V.cv))) :
    LeC (.agg [.v (.int .i64 k), .v (.int .i64 i), F, .v (.string s), L]) (V.mk k i f s l).cv := by
  rw [V.cv_eq]
  refine .agg rfl fun j x y hx hy => ?_
  match j with
  | 0 => simp at hx hy; subst hx; subst hy; exact .refl _
  | 1 => simp at hx hy; subst hx; subst hy; exact .refl _
  | 2 => simp at hx hy; subst hx; subst hy; exact hF
  | 3 => simp at hx hy; subst hx; subst hy; exact .refl _
  | 4 => simp at hx hy; subst hx; subst hy; exact hL
  | j + 5 => simp at hx
theorem ToC.V5 {k i : Int} {s : ByteArray} {F L : CV} {f : Nat} {l : List V} (hF : LeC F (.fl f)) (hL : LeC L (.sl 5 (l.map V.cv))) :
    ToC (.agg [.c (.v (.int .i64 k)), .c (.v (.int .i64 i)), .c F, .c (.v (.string s)), .c L]) (V.mk k i f s l).cv := by
  rw [V.cv_eq]
  refine .agg rfl fun j x y hx hy => ?_
  match j with
  | 0 => simp at hx hy; subst hx; subst hy; exact .c (.refl _)
  | 1 => simp at hx hy; subst hx; subst hy; exact .c (.refl _)
  | 2 => simp at hx hy; subst hx; subst hy; exact .c hF
  | 3 => simp at hx hy; subst hx; subst hy; exact .c (.refl _)
  | 4 => simp at hx hy; subst hx; subst hy; exact .c hL
  | j + 5 => simp at hx
theorem ToC.cv (v : V) : ToC (.agg v.ca) v.cv := by
  have := ToC.V5 (k := v.kind) (i := v.i) (s := v.s) (LeC.refl (.fl v.f)) (LeC.refl (.sl 5 (v.l.map V.cv)))
  rw [V.eta] at this; exact this
theorem WkA.V5 {m m' : Nat → Option Ob} {k i : Int} {s : ByteArray} {F L : AV} {f : Nat} {l : List V} (hF : WkA m m' F (.c (.fl f))) (hL : WkA m m' L (.c (.sl 5 (l.map V.cv)))) :
    WkA m m' (.agg [.c (.v (.int .i64 k)), .c (.v (.int .i64 i)), F, .c (.v (.string s)), L]) (.c (V.mk k i f s l).cv) := by
  rw [V.cv_eq]
  refine .aggC rfl fun j x y hx hy => ?_
  match j with
  | 0 => simp at hx hy; subst hx; subst hy; exact .refl _
  | 1 => simp at hx hy; subst hx; subst hy; exact .refl _
  | 2 => simp at hx hy; subst hx; subst hy; exact hF
  | 3 => simp at hx hy; subst hx; subst hy; exact .refl _
  | 4 => simp at hx hy; subst hx; subst hy; exact hL
  | j + 5 => simp at hx
theorem WkA.cv {m m' : Nat → Option Ob} (v : V) : WkA m m' (.agg v.ca) (.c v.cv) := by
  have := WkA.V5 (m := m) (m' := m') (k := v.kind) (i := v.i) (s := v.s) (WkA.refl (.c (.fl v.f))) (WkA.refl (.c (.sl 5 (v.l.map V.cv))))
  rw [V.eta] at this; exact this
end Go.AM
