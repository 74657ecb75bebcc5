/- The abstract machine, part 9: the other value operations, sound; all of them in one law. It speaks of whatever program. -/
import Derived.Test.YtafieicinmcngaaM8
import Derived.Laws.MakeOwn
namespace Go.AM
open Go Go.RowKit
set_option linter.unusedVariables false
set_option linter.unusedSimpArgs false

section
variable {E : Env} {C : Ctx} {s : AS} {ρ : Nat → Value} {a : Act} {w : World} {K : Act → World → Prop} {Q : Exit → Act → World → Prop}

theorem repV {L : Nat → Prop} {m : Nat → Option Ob} (w : World) (u : Value) : RepA w L ρ m u (.c (.v u)) := .c (.v u)

theorem run_equalIn_bool (d : Nat) {t : TypeId} (p q : Bool) (hu : E.P.underlying t = some .bool) : (Op.equalIn (d + 1) t (.bool p) (.bool q)).run E.P w = .ok (p == q) w := by
  simp [Op.equalIn, run_underlying hu]
theorem run_eqlB {t : TypeId} (p q : Bool) (hu : E.P.underlying t = some .bool) : (binOp .eql t (.bool p) (.bool q)).run E.P w = .ok (.bool (p == q)) w := by
  have e : binOp .eql t (.bool p) (.bool q) = (do pure (.bool (← Op.equal t (.bool p) (.bool q)))) := rfl
  rw [e]
  simp only [Sem.run_bind, Op.equal, Op.maxDepth]
  rw [run_equalIn_bool 9999 p q hu]; rfl
theorem run_neqB {t : TypeId} (p q : Bool) (hu : E.P.underlying t = some .bool) : (binOp .neq t (.bool p) (.bool q)).run E.P w = .ok (.bool !(p == q)) w := by
  have e : binOp .neq t (.bool p) (.bool q) = (do pure (.bool (!(← Op.equal t (.bool p) (.bool q))))) := rfl
  rw [e]
  simp only [Sem.run_bind, Op.equal, Op.maxDepth]
  rw [run_equalIn_bool 9999 p q hu]; rfl

theorem StepV.wp_plain (h : STr C s ρ a w) {op : Op} {v : AV} {R : List Nat} (hs : StepV E s.m s.ev op v R) {o : Oper} (ho : o.op = op)
    (hop : (∃ x, op = .move x) ∨ (∃ x, op = .assign x) ∨ (∃ c x y, op = .pick c x y) ∨ (∃ t x i, op = .index t x i) ∨ (∃ b t x y u, op = .binOp b t x y u) ∨ (∃ b t x, op = .unOp b t x) ∨ (∃ t u x, op = .convert t u x) ∨ (∃ x j, op = .extract x j) ∨ (∃ f x y, op = .makeFunc f x y) ∨ (∃ x t, op = .call { callee := .builtin .len, args := #[x], argTypes := #[t] }))
    (hK : ∀ u w', Keep (fun _ => False) w w' → RepA w' (LL C s.m ρ) ρ s.m u v → K (a.put o.dst u) w') : o.wp E.P a w K Q := by
  have hk : ∀ u, RepA w (LL C s.m ρ) ρ s.m u v → K (a.put o.dst u) w := fun u hu => hK u w (Keep.refl _ w) hu
  cases hs with
  | move x => exact wp_val (u := a.eval x) (w' := w) (by simp [execOp, ho]) (hk _ (h.evR x))
  | assign x => exact wp_val (u := a.eval x) (w' := w) (by simp [execOp, ho]) (hk _ (h.evR x))
  | pickT hc =>
    rename_i c x y
    exact wp_val (u := a.eval x) (w' := w) (by simp [execOp, ho, ev_int h hc, asBool]) (hk _ (h.evR x))
  | pickF hc =>
    rename_i c x y
    exact wp_val (u := a.eval y) (w' := w) (by simp [execOp, ho, ev_int h hc, asBool]) (hk _ (h.evR y))
  | idxS hx hi h0 hc ht hd =>
    rename_i t x ix b k n d c
    have hu := Env.und ht; rw [hd] at hu
    have e : (if 0 ≤ n then b[n.toNat]? else none) = some c := by rw [if_pos h0]; exact hc
    refine wp_val (u := .int .u8 c.toNat) (w' := w) ?_ (hk _ (repV w _))
    simp [execOp, ho, ev_int h hx, ev_int h hi, Instr.index, asIntOf, run_underlying hu, e]
  | lenC hx ht hd =>
    rename_i t x sz e xs d
    have hu := Env.und ht; rw [hd] at hu
    have hv := h.evR x; rw [hx] at hv
    obtain ⟨a', cap, hv, _⟩ := hv.c_inv.sl_inv
    refine wp_val (u := .int .i64 xs.length) (w' := w) ?_ (hk _ (repV w _))
    simp [execOp, ho, resolve, invoke, builtin, hv, Builtin.len_, run_underlying hu, goInt]
  | lenV hx ht hd =>
    rename_i t x a' n c e d
    have hu := Env.und ht; rw [hd] at hu
    refine wp_val (u := .int .i64 n) (w' := w) ?_ (hk _ (repV w _))
    simp [execOp, ho, resolve, invoke, builtin, ev_int h hx, Builtin.len_, run_underlying hu, goInt]
  | lenM hx hm hn ht hd =>
    rename_i t x i n sz e e' xs d
    have hu := Env.und ht; rw [hd] at hu
    have hv := h.evR x; rw [hx] at hv
    have hv2 := (hv.ms_inv _ _ _ hm).2 hn
    obtain ⟨_, vs, hown, _⟩ := h.obj _ _ hm
    have hsl : ∃ p c, ρ i = .slice p xs.length c := by
      rcases hown.2 with ⟨e1, e2⟩ | ⟨g, cap, cur, e1, _⟩
      · exact ⟨none, 0, by rw [e1, e2]⟩
      · exact ⟨_, _, e1⟩
    obtain ⟨p, c, hp⟩ := hsl
    refine wp_val (u := .int .i64 n) (w' := w) ?_ (hk _ (repV w _))
    simp [execOp, ho, resolve, invoke, builtin, hv2, hp, Builtin.len_, run_underlying hu, goInt, hn]
  | lenS hx ht hd =>
    rename_i t x b d
    have hu := Env.und ht; rw [hd] at hu
    refine wp_val (u := .int .i64 b.size) (w' := w) ?_ (hk _ (repV w _))
    simp [execOp, ho, resolve, invoke, builtin, ev_int h hx, Builtin.len_, run_underlying hu, goInt]
  | binI hx hy hr =>
    refine wp_val (w' := w) ?_ (hk _ (repV w _))
    simp [execOp, ho, ev_int h hx, ev_int h hy, guard_int, run_intV hr]
  | binR hx hy hb =>
    rename_i t u x y k p q
    have hq : ¬ q = 0 := by simpa using hb
    refine wp_val (u := .int k (p.tmod q)) (w' := w) ?_ (hk _ (repV w _))
    simp [execOp, ho, ev_int h hx, ev_int h hy, guard_int, binOp, Op.intDiv, hq]
  | binS hx hy hr =>
    refine wp_val (w' := w) ?_ (hk _ (repV w _))
    simp [execOp, ho, ev_int h hx, ev_int h hy, guard_str, run_strV hr]
  | binSA hx hy hl =>
    rename_i t u x y p q
    refine wp_val (u := .string (p ++ q)) (w' := w) ?_ (hk _ (repV w _))
    have : ¬ ((p.size : Int) + q.size > IntKind.i64.max) := by
      have : IntKind.i64.max = 9223372036854775807 := by decide
      rw [this]; omega
    simp [execOp, ho, ev_int h hx, ev_int h hy, guard_str, binOp, Op.stringOp]
    omega
  | binBE hx hy ht hd =>
    rename_i t u x y p q d
    have hu := Env.und ht; rw [hd] at hu
    refine wp_val (u := .bool (p == q)) (w' := w) ?_ (hk _ (repV w _))
    simp only [execOp, ho, ev_int h hx, ev_int h hy, Sem.run_bind, guard_bool, Result.andThen_ok, run_eqlB p q hu, Sem.run_pure]
  | binBN hx hy ht hd =>
    rename_i t u x y p q d
    have hu := Env.und ht; rw [hd] at hu
    refine wp_val (u := .bool !(p == q)) (w' := w) ?_ (hk _ (repV w _))
    simp only [execOp, ho, ev_int h hx, ev_int h hy, Sem.run_bind, guard_bool, Result.andThen_ok, run_neqB p q hu, Sem.run_pure]
  | binF hx hy ha hb hr =>
    rename_i op t u x y cx cy p q r
    obtain ⟨p', hp, hp'⟩ := ev_fl h hx ha
    obtain ⟨q', hq, hq'⟩ := ev_fl h hy hb
    rw [← flV_rel hp' hq'] at hr
    refine wp_val (u := .bool r) (w' := w) ?_ (hk _ (repV w _))
    simp [execOp, ho, hp, hq, guard_fl, run_flV hr]
  | binFA hx hy ha hb =>
    rename_i t u x y cx cy p q
    obtain ⟨p', hp, hp'⟩ := ev_fl h hx ha
    obtain ⟨q', hq, hq'⟩ := ev_fl h hy hb
    obtain ⟨r, w', hr, hrel, hw⟩ := hp'.add_run E.P (t := t) hq' w
    refine wp_val (u := .float .f64 r) (w' := w') ?_ (hK _ w' ?_ (.c (.fl hrel)))
    · simp [execOp, ho, hp, hq, guard_fl, hr]
    · rcases hw with rfl | rfl
      · exact Keep.refl _ _
      · exact Keep.drew _ _
  | unN hx =>
    rename_i t x b
    refine wp_val (u := .bool !b) (w' := w) ?_ (hk _ (repV w _))
    simp [execOp, ho, ev_int h hx, Op.unary]
  | unG hx =>
    rename_i t x k n
    refine wp_val (u := .int k (k.wrap (0 - n))) (w' := w) ?_ (hk _ (repV w _))
    simp [execOp, ho, ev_int h hx, Op.unary, Op.intArith]
  | conv hx ht hu hd =>
    rename_i t u x k k' n d d'
    have hu1 := Env.und ht
    have hu2 := Env.und hu; rw [hd] at hu2
    refine wp_val (u := .int k' (k'.wrap n)) (w' := w) ?_ (hk _ (repV w _))
    simp [execOp, ho, ev_int h hx, convert, run_underlying hu1, run_underlying hu2, Conv.intToInt]
  | convF hx ht hu hd =>
    rename_i t u x k n d d'
    have hu1 := Env.und ht
    have hu2 := Env.und hu; rw [hd] at hu2
    refine wp_val (u := .float .f64 (FloatKind.f64.nearest n)) (w' := w) ?_ (hk _ (.c (.fl (flRel.refl _))))
    simp [execOp, ho, ev_int h hx, convert, run_underlying hu1, run_underlying hu2, Conv.intToFloat]
  | convB hx ht hd he hde hu hd' =>
    rename_i t u x e bs d de d'
    have hu1 := Env.und ht; rw [hd] at hu1
    have hu2 := Env.und hu; rw [hd'] at hu2
    have hu3 := Env.und he; rw [hde] at hu3
    have hv := h.evR x; rw [hx] at hv
    obtain ⟨a', cap, hv, _, _, _, hc, _⟩ := hv.c_inv.sl_inv
    simp only [List.length_map] at hv
    rcases Nat.eq_zero_or_pos bs.length with h0 | h0
    · have : bs = [] := List.eq_nil_of_length_eq_zero h0
      subst this
      refine wp_val (u := .string (strOfNums [])) (w' := w) ?_ (hk _ (repV w _))
      cases a' with
      | none => simp [execOp, ho, hv, run_convert_bytes_nil w t e hu1 hu3 0 cap u hu2]; rfl
      | some ad =>
        obtain ⟨ab, ao, asp⟩ := ad
        have := run_convert_bytes_string w t u e (some ⟨ab, ao, asp⟩) 0 cap hu1 hu3 hu2
        have h2 := run_bytesToString (P := E.P) w ⟨ab, ao, asp⟩ 0 cap [] (by simp [loadCells, loadCellsFrom])
        simp only [execOp, ho, hv, List.length_nil, Sem.run_bind, this, h2]
        simp [strOfNums, ByteArray.empty, ByteArray.emptyWithCapacity]
        rfl
    · obtain ⟨b, of, rfl, hb, hc⟩ := hc (by simpa using h0)
      refine wp_val (u := .string (strOfNums bs)) (w' := w) ?_ (hk _ (repV w _))
      have := run_convert_bytes_arg (P := E.P) w t e hu1 hu3 b of bs.length cap bs rfl (fun i hi => by
        obtain ⟨u, hu, hr⟩ := hc i (.v (.int .u8 (bs.getD i 0))) (by simp [List.getD, List.getElem?_eq_getElem hi]) 0 _ rfl
        rw [hr.v_inv] at hu
        simpa using hu) u hu2
      simp [execOp, ho, hv, this]
  | extract hx hy =>
    rename_i x j xs
    have hv := h.evR x; rw [hx] at hv
    obtain ⟨vs, hv, hl, hc⟩ := hv.tup_inv
    have hj : j < vs.length := by rw [hl]; exact (List.getElem?_eq_some_iff.1 hy).1
    refine wp_val (u := vs.getD j undef) (w' := w) ?_ (hk _ (hc j v hy))
    simp [execOp, ho, hv, Instr.extract, List.getD, List.getElem?_eq_getElem hj]
  | mkfun hc =>
    rename_i fn captured us
    refine wp_val (u := .func fn #[] ⟨us⟩) (w' := w) ?_ (hk _ (repV w _))
    have : captured.map a.eval = ⟨us⟩ := by
      apply Array.ext'
      simp only [Array.toList_map]
      apply List.ext_getElem?
      intro j
      have hj := congrArg (fun l : List AV => l[j]?) hc
      simp only [List.getElem?_map] at hj ⊢
      cases hcj : captured.toList[j]? with
      | none => rw [hcj] at hj; cases hu : us[j]? with
        | none => rfl
        | some u => rw [hu] at hj; cases hj
      | some x =>
        rw [hcj] at hj
        cases hu : us[j]? with
        | none => rw [hu] at hj; cases hj
        | some u =>
          rw [hu] at hj
          simp at hj
          simp [ev_int h hj]
    simp [execOp, ho, Instr.makeFunc, this]
  | mkfunC hc =>
    rename_i f captured cs
    refine wp_val (u := .func (.func f) #[] ⟨captured.toList.map a.eval⟩) (w' := w) ?_ (hk _ (.c (.fn (by have := hc.1; simpa using this) fun j y hy => ?_)))
    · have : captured.map a.eval = ⟨captured.toList.map a.eval⟩ := by apply Array.ext'; simp
      simp [execOp, ho, Instr.makeFunc, this]
    · have hjl : j < captured.toList.length := by have h1 := hc.1; have h2 := (List.getElem?_eq_some_iff.1 hy).1; simp at h1 ⊢; omega
      have := (hc.2 j (s.ev captured.toList[j]) y (by rw [List.getElem?_map, List.getElem?_eq_getElem hjl]; rfl) hy).rep (ρ := ρ) (m := s.m) _ (h.evR _)
      simpa [List.getD, List.getElem?_eq_getElem hjl] using this
  | _ => rcases hop with ⟨_, h⟩ | ⟨_, h⟩ | ⟨_, _, _, h⟩ | ⟨_, _, _, h⟩ | ⟨_, _, _, _, _, h⟩ | ⟨_, _, _, h⟩ | ⟨_, _, _, h⟩ | ⟨_, _, h⟩ | ⟨_, _, _, h⟩ | ⟨_, _, h⟩ <;> cases h
end
end Go.AM
