/- Scripts of calls: what they read as. -/
import Derived.Test.YtbjcckjhfjhicaaVT
namespace Go.Proofs.Ytbjcckjhfjhicaa
open Go Go.AM Go.RowKit Go.ChangeShapes Go.WideShapes
set_option linter.unusedVariables false

/-- A call of a script: a method's number, its args. -/
abbrev Act := Fin 256 × List V
instance : Inhabited Act := ⟨(⟨0, by decide⟩, [])⟩
def GA : Elt Act := ⟨fun a => .agg [.v (.int .u8 (a.1.val : Int)), .sl 5 (a.2.map V.cv)], 2, by decide, fun _ => rfl, fun _ => rfl, fun a c hc => by
  simp [CV.cells] at hc; rcases hc with rfl | rfl <;> rfl⟩
theorem acts_len {w : World} {L : Nat → Prop} {u : Value} {l : List Act} (h : Rep w L u (.sl 2 (l.map GA.g))) : l.length ≤ maxLen := gl_len (G := GA) h
theorem len2 {α : Type} : ∀ {l : List α}, l.length = 2 → ∃ a b, l = [a, b]
  | [a, b], _ => ⟨a, b, rfl⟩
theorem opens_act {H : Type} {enc : TypeId × Value → H} {w : World} {spare : Nat → Bool} {held : Bool} {e : TypeId} {fs : Array Field} (ht : Try.prog.underlying e = some (.struct fs)) (hc : Try.prog.cellsOf e = 2)
    (h0 : (fs[0]?.map fun f => (f.type, f.offset)) = some (5, 0)) (h1 : (fs[1]?.map fun f => (f.type, f.offset)) = some (22, 1)) (n : Nat) : Opens GA enc Try.prog w spare held n e := by
  intro cs x h
  obtain ⟨hl, m, rfl, hf⟩ := trod_fld ht h
  have hl : cs.length = 2 := hl.trans hc
  obtain ⟨y0, g0⟩ := hf 0 5 0 1 h0 (by kernel_rfl)
  obtain ⟨y1, g1⟩ := hf 1 22 1 1 h1 (by kernel_rfl)
  obtain ⟨c0, c1, rfl⟩ := len2 hl
  clear hl
  have g0 : DataW.trod enc Try.prog w 0 spare held m 5 [c0] = some y0 := g0
  have g1 : DataW.trod enc Try.prog w 0 spare held m 22 [c1] = some y1 := g1
  clear hf h ht hc h0 h1
  obtain ⟨a, e0, _, hw⟩ := DataW.trod_int Try.underlying5 g0
  obtain ⟨k, rfl, hk⟩ := u8_of hw
  simp at e0; subst e0
  cases m with
  | zero => simp [DataW.trod] at g1
  | succ m =>
    obtain ⟨l, v, e1, hv⟩ := open_list GV vT.l vT.cv (open_V vT m) g1
    simp at e1; subst e1
    refine ⟨(⟨k, hk⟩, l), rfl, fun j y hy => ?_⟩
    match j with
    | 0 => simp [GA, CV.cells] at hy; subst hy; exact .v _
    | 1 => simp [GA, CV.cells] at hy; subst hy; exact hv
    | j + 2 => simp [GA, CV.cells] at hy
end Go.Proofs.Ytbjcckjhfjhicaa
