/- The abstract machine, part 8: each value operation, sound. It speaks of whatever program. -/
import Derived.Test.YtafieicinmcngaaM7
namespace Go.AM
open Go Go.RowKit
set_option linter.unusedVariables false
set_option linter.unusedSimpArgs false

section
variable {E : Env} {C : Ctx} {s : AS} {ρ : Nat → Value} {a : Act} {w : World} {K : Act → World → Prop} {Q : Exit → Act → World → Prop}

theorem wp_val {o : Oper} {u : Value} {w' : World} (hr : (execOp a.eval o).run E.P w = .ok (.value u) w') (hK : K (a.put o.dst u) w') : o.wp E.P a w K Q := by
  unfold Oper.wp; rw [hr]; exact hK

theorem keepL (h : STr C s ρ a w) {w' : World} (hk : Keep (fun _ => False) w w') {v : Value} {x : AV} (hv : RepA w (LL C s.m ρ) ρ s.m v x) : RepA w' (LL C s.m ρ) ρ s.m v x :=
  hv.keep (fun _ h _ => h) (fun b _ hb => hk.block b hb id) fun i => .inr (.inr (.inr ⟨rfl, .inl rfl⟩))

theorem ev_int (h : STr C s ρ a w) {x : Operand} {u : Value} (hx : s.ev x = .c (.v u)) : a.eval x = u := by
  have := h.evR x; rw [hx] at this; exact this.v_inv
theorem ev_fl (h : STr C s ρ a w) {x : Operand} {cx : CV} {b : Nat} (hx : s.ev x = .c cx) (hb : asF cx = some b) : ∃ r, a.eval x = .float .f64 r ∧ flRel r b := by
  have := h.evR x; rw [hx] at this
  have hr := this.c_inv
  cases cx with
  | v u =>
    cases u <;> simp [asF] at hb
    rename_i k n
    cases k <;> simp [asF] at hb
    subst hb
    exact ⟨n, hr.v_inv, flRel.refl _⟩
  | fl c => simp [asF] at hb; subst hb; generalize a.eval x = v at hr; cases hr with | fl hh => exact ⟨_, rfl, hh⟩
  | _ => simp [asF] at hb

theorem run_intV {op : BinOp} {k : IntKind} {x y : Int} {r : Value} (hr : intV op k x y = some r) (t : TypeId) : (binOp op t (.int k x) (.int k y)).run E.P w = .ok r w := by
  cases op <;> simp [intV] at hr <;> subst hr <;> simp [binOp, Op.intArith, Op.intCmp]
theorem run_strV {op : BinOp} {x y : ByteArray} {r : Value} (hr : strV op x y = some r) (t : TypeId) : (binOp op t (.string x) (.string y)).run E.P w = .ok r w := by
  cases op <;> simp [strV] at hr <;> subst hr <;> simp [binOp, Op.stringOp]
theorem run_flV {op : BinOp} {x y : Nat} {r : Bool} (hr : flV op x y = some r) (t : TypeId) : (binOp op t (.float .f64 x) (.float .f64 y)).run E.P w = .ok (.bool r) w := by
  cases op <;> simp [flV] at hr <;> subst hr <;> simp [binOp, Op.floatCmp]
theorem flV_rel {op : BinOp} {x y x' y' : Nat} (hx : flRel x x') (hy : flRel y y') : flV op x y = flV op x' y' := by
  unfold flV; rw [hx.order hy]

theorem guard_int (op : BinOp) (t : TypeId) (x y : Operand) (k : IntKind) (p q : Int) : (eqGuard op t x y (.int k p) (.int k q)).run E.P w = .ok () w := by
  cases op <;> simp [eqGuard]
theorem guard_str (op : BinOp) (t : TypeId) (x y : Operand) (p q : ByteArray) : (eqGuard op t x y (.string p) (.string q)).run E.P w = .ok () w := by
  cases op <;> simp [eqGuard]
theorem guard_fl (op : BinOp) (t : TypeId) (x y : Operand) (p q : Nat) : (eqGuard op t x y (.float .f64 p) (.float .f64 q)).run E.P w = .ok () w := by
  cases op <;> simp [eqGuard]
theorem guard_bool (op : BinOp) (t : TypeId) (x y : Operand) (p q : Bool) : (eqGuard op t x y (.bool p) (.bool q)).run E.P w = .ok () w := by
  cases op <;> simp [eqGuard]

/-- Loads, fields, indexes. -/
theorem StepV.wp_mem (h : STr C s ρ a w) {op : Op} {v : AV} {R : List Nat} (hs : StepV E s.m s.ev op v R) {o : Oper} (ho : o.op = op)
    (hop : (∃ t x, op = .load t x) ∨ (∃ t x f, op = .fieldAddr t x f) ∨ (∃ t x i, op = .indexAddr t x i))
    (hK : ∀ u, RepA w (LL C s.m ρ) ρ s.m u v → K (a.put o.dst u) w) : o.wp E.P a w K Q := by
  cases hs with
  | loadL hx hm ht hd hy =>
    rename_i t x i off cells d
    have hv := h.evR x; rw [hx] at hv
    have hh := hv.loc_inv
    obtain ⟨b, hρ, hv⟩ := hh _ hm
    obtain ⟨b', cs, ty, hu, hheap, hsz, hc, _⟩ := (h.obj i _ hm).box_cell
    rw [hρ] at hu; cases hu
    refine wp_val (u := cs.getD off undef) (w' := w) ?_ (hK _ (hc off v hy).2)
    simp [execOp, ho, hv, run_loadS ht hd w b off _ (hc off v hy).1]
  | loadLA hx hm ht hd hl =>
    rename_i t x i off cells d
    have hv := h.evR x; rw [hx] at hv
    have hh := hv.loc_inv
    obtain ⟨b, hρ, hv⟩ := hh _ hm
    obtain ⟨b', cs, ty, hu, hheap, hsz, hc, _⟩ := (h.obj i _ hm).box_cell
    rw [hρ] at hu; cases hu
    have hlen : ((cs.toList.drop off).take d.sz).length = d.sz := by simp; omega
    have hcell : ∀ (j : Nat) (u : Value), ((cs.toList.drop off).take d.sz)[j]? = some u → w.cell? ⟨b, off + j, none⟩ = some u := by
      intro j u hj
      rw [List.getElem?_take] at hj
      split at hj
      · rw [List.getElem?_drop] at hj
        rw [cell_of_row w b (off + j) cs ty (0, 0) hheap]
        simpa using hj
      · cases hj
    refine wp_val (u := .agg ⟨(cs.toList.drop off).take d.sz⟩) (w' := w) ?_ (hK _ (.agg (by rw [hlen]; simp; omega) fun j y hy => ?_))
    · simp only [execOp, ho, hv, Sem.run_bind, run_loadAg ht hd w b off _ hlen hcell, Result.andThen_ok, Sem.run_pure]
    · rw [List.getElem?_take] at hy
      split at hy
      · rename_i hjs
        rw [List.getElem?_drop] at hy
        have := (hc _ y hy).2
        rw [show ((cs.toList.drop off).take d.sz).getD j undef = cs.getD (off + j) undef by simp [List.getD, List.getElem?_take, hjs, Array.getD_eq_getD_getElem?]]
        exact this
      · cases hy
  | loadC hx ht hd hy =>
    rename_i t x cs d y
    have hv := h.evR x; rw [hx] at hv
    obtain ⟨b, of, hv, hb, h0, hc⟩ := hv.c_inv.ad_inv
    obtain ⟨u, hu, hr⟩ := hc 0 y hy
    refine wp_val (u := u) (w' := w) ?_ (hK _ (.c hr))
    simp [execOp, ho, hv, run_loadS ht hd w b of u (by simpa using hu)]
  | loadCA hx ht hd hl =>
    rename_i t x cs d
    have hv := h.evR x; rw [hx] at hv
    obtain ⟨b, of, hv, hb, h0, hc⟩ := hv.c_inv.ad_inv
    have hlen : ((List.range d.sz).map fun j => (w.cell? ⟨b, of + j, none⟩).getD undef).length = d.sz := by simp
    have hcs : ∀ j, j < d.sz → ∃ u, w.cell? ⟨b, of + j, none⟩ = some u ∧ ∀ y, cs[j]? = some y → Rep w (LL C s.m ρ) u y := by
      intro j hj
      obtain ⟨u, hu, hr⟩ := hc j _ (List.getElem?_eq_getElem (show j < cs.length by omega))
      exact ⟨u, hu, fun y hy => by rw [List.getElem?_eq_getElem (show j < cs.length by omega)] at hy; cases hy; exact hr⟩
    refine wp_val (u := .agg ⟨(List.range d.sz).map fun j => (w.cell? ⟨b, of + j, none⟩).getD undef⟩) (w' := w) ?_ (hK _ (.c (.agg (by simp; omega) fun j y hy => ?_)))
    · simp only [execOp, ho, hv, Sem.run_bind, Result.andThen_ok, Sem.run_pure]
      rw [run_loadAg ht hd w b of _ hlen]
      · rfl
      · intro j u hj
        simp only [List.getElem?_map] at hj
        obtain ⟨k, hk, rfl⟩ := Option.map_eq_some_iff.1 hj
        have hjs : j < d.sz := by have := (List.getElem?_eq_some_iff.1 hk).1; simpa using this
        simp [hjs] at hk; subst hk
        obtain ⟨u, hu, _⟩ := hcs j hjs
        rw [hu]; rfl
    · rw [List.getElem?_take] at hy
      split at hy
      · rename_i hjs
        obtain ⟨u, hu, hr⟩ := hcs j hjs
        rw [show ((List.range d.sz).map fun j => (w.cell? ⟨b, of + j, none⟩).getD undef).getD j undef = u by simp [List.getD, hjs, hu]]
        exact hr y hy
      · cases hy
  | loadE hx hm hn hk ht hd hy =>
    rename_i t x i n sz k off e xs x0 y d
    have hv := h.evR x; rw [hx] at hv
    have hh := hv.el_inv
    obtain ⟨_, b, cap, hρ, hv2⟩ := (hh _ _ _ hm).2 hn
    obtain ⟨hl, b', cap', hu, hc⟩ := (h.obj i _ hm).arr_cell hk
    rw [hρ] at hu; cases hu
    obtain ⟨u, hu, hr⟩ := hc off y hy
    refine wp_val (u := u) (w' := w) ?_ (hK _ (.c hr))
    simp [execOp, ho, hv2, run_loadS ht hd w b (k * sz + off) u hu]
  | loadEA hx hm hn hk ht hd hl =>
    rename_i t x i n sz k off e xs x0 d
    have hv := h.evR x; rw [hx] at hv
    have hh := hv.el_inv
    obtain ⟨_, b, cap, hρ, hv2⟩ := (hh _ _ _ hm).2 hn
    obtain ⟨hl', b', cap', hu, hc⟩ := (h.obj i _ hm).arr_cell hk
    rw [hρ] at hu; cases hu
    have hcs : ∀ j, j < d.sz → ∃ u, w.cell? ⟨b, k * sz + off + j, none⟩ = some u ∧ ∀ y, x0.cells[off + j]? = some y → Rep w (LL C s.m ρ) u y := by
      intro j hj
      obtain ⟨u, hu, hr⟩ := hc (off + j) _ (List.getElem?_eq_getElem (show off + j < x0.cells.length by omega))
      exact ⟨u, by rw [Nat.add_assoc]; exact hu, fun y hy => by rw [List.getElem?_eq_getElem (show off + j < x0.cells.length by omega)] at hy; cases hy; exact hr⟩
    have hlen : ((List.range d.sz).map fun j => (w.cell? ⟨b, k * sz + off + j, none⟩).getD undef).length = d.sz := by simp
    refine wp_val (u := .agg ⟨(List.range d.sz).map fun j => (w.cell? ⟨b, k * sz + off + j, none⟩).getD undef⟩) (w' := w) ?_ (hK _ (.c (.agg (by simp; omega) fun j y hy => ?_)))
    · simp only [execOp, ho, hv2, Sem.run_bind, Result.andThen_ok, Sem.run_pure]
      rw [run_loadAg ht hd w b (k * sz + off) _ hlen]
      · rfl
      · intro j u hj
        simp only [List.getElem?_map] at hj
        obtain ⟨q, hq, rfl⟩ := Option.map_eq_some_iff.1 hj
        have hjs : j < d.sz := by have := (List.getElem?_eq_some_iff.1 hq).1; simpa using this
        simp [hjs] at hq; subst hq
        obtain ⟨u, hu, _⟩ := hcs j hjs
        rw [hu]; rfl
    · rw [List.getElem?_take] at hy
      split at hy
      · rename_i hjs
        rw [List.getElem?_drop] at hy
        obtain ⟨u, hu, hr⟩ := hcs j hjs
        rw [show ((List.range d.sz).map fun j => (w.cell? ⟨b, k * sz + off + j, none⟩).getD undef).getD j undef = u by simp [List.getD, hjs, hu]]
        exact hr y hy
      · cases hy
  | fldL hx hm ht hd hf h2 h0 =>
    rename_i t x f i off cells d fd fs fld
    have hv := h.evR x; rw [hx] at hv
    have hh := hv.loc_inv
    obtain ⟨b, hρ, hv⟩ := hh _ hm
    refine wp_val (u := .pointer (some ⟨b, off + fld.offset, none⟩)) (w' := w) ?_ (hK _ (.loc fun cells' hm' => ⟨b, hρ, rfl⟩))
    simp [execOp, ho, hv, run_fieldAt' ht hd hf h2 h0]
  | fldC hx ht hd hf h2 h0 hl =>
    rename_i t x f cs d fd fs fld
    have hv := h.evR x; rw [hx] at hv
    obtain ⟨b, of, hv, hb, h0', hc⟩ := hv.c_inv.ad_inv
    refine wp_val (u := .pointer (some ⟨b, of + fld.offset, none⟩)) (w' := w) ?_ (hK _ (.c (Rep.ad_mk hb (by simp; omega) fun j y hy => ?_)))
    · simp [execOp, ho, hv, run_fieldAt' ht hd hf h2 h0]
    · rw [List.getElem?_drop] at hy
      rw [Nat.add_assoc]; exact hc _ y hy
  | fldE hx hm hn ht hd hf h2 h0 =>
    rename_i t x f i n sz k off e xs d fd fs fld
    have hv := h.evR x; rw [hx] at hv
    have hh := hv.el_inv
    obtain ⟨_, b, cap, hρ, hv⟩ := (hh _ _ _ hm).2 hn
    refine wp_val (u := .pointer (some ⟨b, k * sz + off + fld.offset, none⟩)) (w' := w) ?_ (hK _ (.el fun sz' e' xs' hm' => ?_))
    · simp [execOp, ho, hv, run_fieldAt' ht hd hf h2 h0]
    · rw [hm] at hm'; cases hm'
      exact ⟨by omega, fun _ => ⟨rfl, b, cap, hρ, by rw [Nat.add_assoc]⟩⟩
  | idxC hx hi h0 hy ht hd he hs =>
    rename_i t x ix sz e xs k n y d de
    have hv := h.evR x; rw [hx] at hv
    have hiv := ev_int h hi
    obtain ⟨a', cap, hv, hcap, hmax, hsz, hc, hlen⟩ := hv.c_inv.sl_inv
    have hlt : n.toNat < xs.length := (List.getElem?_eq_some_iff.1 hy).1
    obtain ⟨b, of, rfl, hb, hc⟩ := hc (by omega)
    refine wp_val (u := .pointer (some ⟨b, of + n.toNat * sz, none⟩)) (w' := w) ?_ (hK _ (.c (Rep.ad_mk hb (by rw [hlen _ y hy]; exact hsz) fun j z hz => ?_)))
    · simp [execOp, ho, hv, hiv, run_indexAt' ht hd he w b of xs.length cap k n h0 (by omega), hs]
    · rw [Nat.add_assoc]; exact hc _ y hy j z hz
  | idxM hx hm hn hi h0 hlt ht hd he hs =>
    rename_i t x ix i n0 sz e e' xs k n d de
    have hv := h.evR x; rw [hx] at hv
    have hiv := ev_int h hi
    have hh := hv.ms_inv
    have hv := (hh _ _ _ hm).2 hn
    have hlt' : n.toNat < xs.length := by omega
    obtain ⟨hl, b, cap, hu, hc⟩ := (h.obj i _ hm).arr_cell (List.getElem?_eq_getElem hlt')
    rw [hu] at hv
    refine wp_val (u := .pointer (some ⟨b, n.toNat * sz, none⟩)) (w' := w) ?_ (hK _ (.el fun sz' e'' xs' hm' => ?_))
    · simp [execOp, ho, hv, hiv, run_indexAt' ht hd he w b 0 xs.length cap k n h0 (by omega), hs]
    · rw [hm] at hm'; cases hm'
      exact ⟨by omega, fun _ => ⟨rfl, b, cap, by rw [hu, hn], rfl⟩⟩
  | _ => rcases hop with ⟨_, _, h⟩ | ⟨_, _, _, h⟩ | ⟨_, _, _, h⟩ <;> cases h
end
end Go.AM
