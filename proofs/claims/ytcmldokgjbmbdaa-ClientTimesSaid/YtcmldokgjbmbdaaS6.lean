/- The abstract machine's further steps: parts of lists, what is added to nothing. It speaks of whatever program. -/
import Derived.Test.YtcmldokgjbmbdaaS5
namespace Go.AM
open Go Go.RowKit
set_option linter.unusedVariables false
set_option linter.unusedSimpArgs false

section
variable {E : Env} {m : Nat → Option Ob} {ev : Operand → AV} {dst : Option Tmp}
theorem slPre {t : TypeId} {x o2 : Operand} {l : List V} {e k : Nat} {n2 : Int} {d de : TD} (h2 : n2 = k) (hk : k ≤ l.length) (hx : ev x = .c (.sl 5 (l.map V.cv)))
    (ht : E.Ty t = some d) (hd : d.desc = .slice e) (he : E.Ty e = some de) (hs : de.sz = 5) (e2 : ev o2 = .c (.v (.int .i64 n2))) :
    StepV E m ev (.slice t x none (some o2) none) (.c (.sl 5 ((l.take k).map V.cv))) [] := by
  have := StepV.slc (E := E) (m := m) (ev := ev) (t := t) (x := x) (lo := none) (hi := some o2) (l := 0) (h := k) hx ht hd he hs rfl ⟨_, _, e2, by omega, by omega⟩ (by omega) (by simpa using hk)
  rw [List.drop_zero, Nat.sub_zero, ← List.map_take] at this
  exact this
theorem slSuf {t : TypeId} {x o1 : Operand} {l : List V} {e k : Nat} {n1 : Int} {d de : TD} (h1 : n1 = k) (hk : k ≤ l.length) (hx : ev x = .c (.sl 5 (l.map V.cv)))
    (ht : E.Ty t = some d) (hd : d.desc = .slice e) (he : E.Ty e = some de) (hs : de.sz = 5) (e1 : ev o1 = .c (.v (.int .i64 n1))) :
    StepV E m ev (.slice t x (some o1) none none) (.c (.sl 5 ((l.drop k).map V.cv))) [] := by
  have := StepV.slc (E := E) (m := m) (ev := ev) (t := t) (x := x) (lo := some o1) (hi := none) (l := k) (h := (l.map V.cv).length) hx ht hd he hs ⟨_, _, e1, by omega, by omega⟩ rfl (by simpa using hk) (Nat.le_refl _)
  rw [List.take_of_length_le (by simp), ← List.map_drop] at this
  exact this
/-- Nothing is added to nothing. -/
theorem apZ {t : TypeId} {x y : Operand} {sz e : Nat} {td de : TD} (hx : ev x = .c (.v (.slice none 0 0))) (hy : ev y = .c (.sl sz [])) (ht : E.Ty t = some td) (hd : td.desc = .slice e) (he : E.Ty e = some de) (hs : de.sz = sz) (hb : Nat.blt 0 de.bytes = true) :
    StepR E m ev dst (.call { callee := .builtin .append, args := #[x, y], argTypes := #[t, t] }) (.c (.v (.slice none 0 0))) [] [] [] :=
  .run [(x, .v (.slice none 0 0)), (y, .sl sz [])] (by simp [hx, hy, Op.operands, Call.operands]) fun w L eval o hL ho h => by
    have h1 : eval x = .slice none 0 0 := (h (x, .v (.slice none 0 0)) (by simp)).v_inv
    have h2 : Rep w L (eval y) (.sl sz []) := h (y, .sl sz []) (by simp)
    obtain ⟨ya, ycap, hyv, _, _, hsz, _⟩ := h2.sl_inv
    have hu := Env.und ht; rw [hd] at hu
    obtain ⟨hue, ti, hti, his, hib, z, hz, hzc⟩ := E.ok e de he
    have hzs : z.cells.size = sz := by
      have hl : z.cells.size = de.zero.length := by rw [← hzc]; simp
      rw [hl, E.zl e de he, hs]
    have hb0 := Nat.le_of_ble_eq_true hb
    have fin : ∀ w', (Builtin.append_ #[t, t] o.type #[.slice none 0 0, eval y]).run E.P w = .ok (.slice none 0 0) w' → Keep (fun _ => False) w w' →
        ∃ u w', (execOp eval o).run E.P w = .ok (.value u) w' ∧ Keep (fun _ => False) w w' ∧ Rep w' L u (.v (.slice none 0 0)) := fun w' hr hk =>
      ⟨.slice none 0 0, w', by simp only [execOp, ho, resolve, invoke, builtin, Sem.run_bind, Sem.run_pure, Result.andThen_ok, List.map_toArray, List.map_cons, List.map_nil, h1, hr], hk, .v _⟩
    cases ya with
    | none => exact fin w (by rw [hyv]; exact run_append_nilsrc w ht hd he none 0 0 ycap (Nat.le_refl _)) (Keep.refl _ w)
    | some ad =>
      obtain ⟨v', w', hrun, hown', hg, hnil, hat⟩ := run_append_own_at (P := E.P) w 0 t o.type e ti z sz ti.bytes hu hti hz (by omega) rfl hzs hsz (.slice none 0 0) 0 [] (World.ownsRow_nil w 0 e sz) ad 0 ycap [] (by simp) (fun j u hu => by simp at hu) (fun u hu => by simp at hu) (by simp [maxLen]) (by simp) (Nat.zero_le _)
      have hv' := hnil.2 ⟨rfl, rfl⟩
      subst hv'
      refine fin w' (by rw [hyv]; exact hrun) ⟨hg.os, hg.tape, hg.output, hg.size, fun b hb _ => hg.block b hb (by simp [Value.ownBlock])⟩
end
end Go.AM
