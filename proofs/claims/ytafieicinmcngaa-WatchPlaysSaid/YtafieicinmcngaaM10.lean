/- The abstract machine, part 10: composites, slices, calls; all value operations in one law. It speaks of whatever program. -/
import Derived.Test.YtafieicinmcngaaM9
namespace Go.AM
open Go Go.RowKit
set_option linter.unusedVariables false
set_option linter.unusedSimpArgs false

section
variable {E : Env} {C : Ctx} {s : AS} {ρ : Nat → Value} {a : Act} {w : World} {K : Act → World → Prop} {Q : Exit → Act → World → Prop}

/-- Cells by cells: values and what they read as. -/
def RelL (w : World) (L : Nat → Prop) (ρ : Nat → Value) (m : Nat → Option Ob) (vs : Array Value) (ys : List AV) : Prop :=
  vs.size = ys.length ∧ ∀ (j : Nat) (y : AV), ys[j]? = some y → RepA w L ρ m (vs.getD j undef) y

theorem foldl_zip : ∀ (us : List Value) (off k : Nat) (vs : Array Value), (us.zipIdx k).foldl (fun cs (x : Value × Nat) => cs.setIfInBounds (off + x.2) x.1) vs =
    ⟨vs.toList.take (off + k) ++ (us.take (vs.size - (off + k))) ++ vs.toList.drop (off + k + us.length)⟩
  | [], off, k, vs => by apply Array.ext'; simp
  | u :: us, off, k, vs => by
    simp only [List.zipIdx_cons, List.foldl_cons]
    rw [foldl_zip us off (k + 1)]
    apply Array.ext'
    simp only [Array.toList_setIfInBounds, Array.size_setIfInBounds, List.length_cons]
    by_cases hlt : off + k < vs.size
    · rw [show vs.size - (off + k) = (vs.size - (off + (k + 1))) + 1 by omega]
      rw [List.take_succ_cons]
      have h1 : (vs.toList.set (off + k) u).take (off + (k + 1)) = vs.toList.take (off + k) ++ [u] := by
        apply List.ext_getElem?
        intro j
        simp only [List.getElem?_take, List.getElem?_set, List.getElem?_append, List.length_take, Array.length_toList]
        by_cases hj : j < off + k
        · rw [if_pos (by omega), if_neg (by omega), if_pos (by omega), if_pos hj]
        · by_cases hj' : j = off + k
          · subst hj'
            rw [if_pos (show off + k < off + (k + 1) by omega)]
            simp [hlt, show min (off + k) vs.size = off + k by omega]
          · rw [if_neg (by omega), if_neg (by omega)]
            rw [List.getElem?_eq_none]; simp; omega
      have h2 : (vs.toList.set (off + k) u).drop (off + (k + 1) + us.length) = vs.toList.drop (off + k + (us.length + 1)) := by
        rw [List.drop_set_of_lt (by omega)]
        congr 1; omega
      rw [h1, h2]; simp
    · have h0 : vs.size - (off + k) = 0 := by omega
      have h0' : vs.size - (off + (k + 1)) = 0 := by omega
      rw [h0, h0', List.set_eq_of_length_le (by simpa using Nat.le_of_not_lt hlt)]
      simp only [List.take_zero, List.append_nil]
      rw [List.take_of_length_le (by simp; omega), List.take_of_length_le (by simp; omega), List.drop_of_length_le (by simp; omega), List.drop_of_length_le (by simp; omega)]

theorem relL_set {L : Nat → Prop} {m : Nat → Option Ob} {vs us : Array Value} {cells ys : List AV} {off : Nat} (h : RelL w L ρ m vs cells) (hu : RelL w L ρ m us ys) (hb : off + ys.length ≤ cells.length) :
    RelL w L ρ m ((us.zipIdx).foldl (fun cs (x : Value × Nat) => cs.setIfInBounds (off + x.2) x.1) vs) (setMany cells off ys) := by
  have hf : (us.zipIdx).foldl (fun cs (x : Value × Nat) => cs.setIfInBounds (off + x.2) x.1) vs = ⟨vs.toList.take off ++ us.toList ++ vs.toList.drop (off + us.size)⟩ := by
    rw [← Array.foldl_toList, Array.toList_zipIdx, foldl_zip us.toList off 0 vs]
    apply Array.ext'
    simp only [Nat.add_zero, Array.length_toList]
    have hus : us.toList.take (vs.size - off) = us.toList := List.take_of_length_le (by rw [Array.length_toList]; have := h.1; have := hu.1; omega)
    rw [hus]
  rw [hf]
  have h1 := h.1; have h2 := hu.1
  refine ⟨by simp [setMany]; omega, fun j y hy => ?_⟩
  unfold setMany at hy
  have e : ∀ l : List Value, (⟨l⟩ : Array Value).getD j undef = l.getD j undef := fun l => by simp [Array.getD_eq_getD_getElem?, List.getD]
  rw [e]
  simp only [List.getD, List.getElem?_append, List.length_append, List.length_take, Array.length_toList] at hy ⊢
  rw [show min off vs.size = off by omega]
  rw [show min off cells.length = off by omega] at hy
  by_cases hj : j < off
  · rw [if_pos (by omega), if_pos hj] at hy ⊢
    rw [List.getElem?_take, if_pos hj] at hy ⊢
    have := h.2 j y hy
    simpa [Array.getD_eq_getD_getElem?] using this
  · by_cases hj2 : j < off + ys.length
    · rw [if_pos (by omega), if_neg hj] at hy ⊢
      have := hu.2 (j - off) y hy
      simpa [Array.getD_eq_getD_getElem?] using this
    · rw [if_neg (by omega)] at hy ⊢
      rw [List.getElem?_drop] at hy ⊢
      have := h.2 j y (by rw [← hy]; congr 1; omega)
      rw [show off + us.size + (j - (off + us.size)) = j by omega]
      simpa [Array.getD_eq_getD_getElem?] using this

theorem fill_sound (h : STr C s ρ a w) {fs : Array Field} {cells out : List AV} {parts : List (Nat × AV)} {R : List Nat} (hf : Fill E s.m fs cells parts out R) :
    ∀ (vs : Array Value) (ps : List (Nat × Value)), RelL w (LL C s.m ρ) ρ s.m vs cells → ps.length = parts.length →
      (∀ (j : Nat) (p : Nat × Value) (q : Nat × AV), ps[j]? = some p → parts[j]? = some q → p.1 = q.1 ∧ RepA w (LL C s.m ρ) ρ s.m p.2 q.2) →
      ∃ out', Instr.fill (fun i => (fs[i]?).bind fun f => (E.Ty f.type).map fun d => (f.offset, d.sz)) vs ps = some out' ∧ RelL w (LL C s.m ρ) ρ s.m out' out := by
  induction hf with
  | nil cells =>
    intro vs ps hr hl _
    simp at hl; subst hl
    exact ⟨vs, rfl, hr⟩
  | cons hfi ht hc hl hb hrest ih =>
    rename_i cells i v ys rest out fld fd R R'
    intro vs ps hr hlen hps
    cases ps with
    | nil => simp at hlen
    | cons p ps =>
      obtain ⟨pi, pv⟩ := p
      obtain ⟨e, hpv⟩ := hps 0 (pi, pv) (i, v) rfl rfl
      simp only at e hpv; subst e
      obtain ⟨hcs, hcr⟩ := Cells.sound h hpv hc
      have hsz : vs.size = cells.length := hr.1
      obtain ⟨out', ho, hor⟩ := ih (pv.cells.zipIdx.foldl (fun cs (x : Value × Nat) => cs.setIfInBounds (fld.offset + x.2) x.1) vs) ps (relL_set hr ⟨hcs, hcr⟩ (by omega)) (by simpa using hlen)
        (fun j p q hp hq => hps (j + 1) p q (by simpa using hp) (by simpa using hq))
      refine ⟨out', ?_, hor⟩
      unfold Instr.fill
      simp only [hfi, ht, Option.bind_some, Option.map_some]
      rw [if_neg]
      · exact ho
      · simp only [Bool.or_eq_true, decide_eq_true_eq, not_or]
        exact ⟨by omega, by omega⟩
end
end Go.AM
