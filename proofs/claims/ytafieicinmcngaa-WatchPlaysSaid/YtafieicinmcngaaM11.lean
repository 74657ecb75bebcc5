/- The abstract machine, part 11: composites, slices, calls, sound; all value operations in one law. It speaks of whatever program. -/
import Derived.Test.YtafieicinmcngaaM10
namespace Go.AM
open Go Go.RowKit
set_option linter.unusedVariables false
set_option linter.unusedSimpArgs false

section
variable {E : Env} {C : Ctx} {s : AS} {ρ : Nat → Value} {a : Act} {w : World} {K : Act → World → Prop} {Q : Exit → Act → World → Prop}

theorem places_of (fs : List Field) (ha : fs.all (fun f => (E.Ty f.type).isSome) = true) :
    fs.mapM (fun f => (E.P.info? f.type).map fun i => (f.offset, i.size)) = some (fs.map fun f => (f.offset, ((E.Ty f.type).map TD.sz).getD 0)) := by
  induction fs with
  | nil => rfl
  | cons f fs ih =>
    simp only [List.all_cons, Bool.and_eq_true] at ha
    obtain ⟨d, hd⟩ := Option.isSome_iff_exists.1 ha.1
    obtain ⟨_, i, hi, hs, _⟩ := E.ok _ d hd
    simp [List.mapM_cons, hi, ih ha.2, hd, hs]

theorem StepV.wp_build (h : STr C s ρ a w) {t : TypeId} {parts : Array (Nat × Operand)} {d : TD} {fs : Array Field} {out : List AV} {R : List Nat} (ht : E.Ty t = some d) (hd : d.desc = .struct fs) (ha : fs.toList.all (fun f => (E.Ty f.type).isSome) = true)
    (hf : Fill E s.m fs (d.zero.map fun z => .c (.v z)) (parts.toList.map fun p => (p.1, s.ev p.2)) out R) {o : Oper} (ho : o.op = .build t parts)
    (hK : ∀ u, RepA w (LL C s.m ρ) ρ s.m u (.agg out) → K (a.put o.dst u) w) : o.wp E.P a w K Q := by
  obtain ⟨hu, i, hi, hs, hb, z, hz, hzc⟩ := E.ok t d ht
  rw [hd] at hu
  have hzr : RelL w (LL C s.m ρ) ρ s.m z.cells (d.zero.map fun z => .c (.v z)) := by
    refine ⟨by rw [List.length_map, ← hzc]; simp, fun j y hy => ?_⟩
    simp only [List.getElem?_map] at hy
    obtain ⟨q, hq, rfl⟩ := Option.map_eq_some_iff.1 hy
    rw [← hzc] at hq
    have : z.cells.getD j undef = q := by simp [Array.getD_eq_getD_getElem?] at hq ⊢; rw [hq]; rfl
    rw [this]; exact .c (.v q)
  obtain ⟨out', hfill, hr⟩ := fill_sound h hf z.cells (parts.toList.map fun p => (p.1, a.eval p.2)) hzr (by simp) (fun j p q hp hq => by
    simp only [List.getElem?_map] at hp hq
    obtain ⟨x, hx, rfl⟩ := Option.map_eq_some_iff.1 hp
    rw [hx] at hq; simp at hq; subst hq
    exact ⟨rfl, h.evR _⟩)
  have hb' : E.P.built t (parts.map fun p => (p.1, a.eval p.2)).toList = some out' := by
    unfold Program.built
    simp only [hi, hu, hz, places_of fs.toList ha, Array.toList_map]
    rw [← hfill]
    congr 1
    funext j
    simp only [List.getElem?_toArray, List.getElem?_map, Array.getElem?_toList]
    cases hj : fs[j]? with
    | none => rfl
    | some f =>
      obtain ⟨d', hd'⟩ := Option.isSome_iff_exists.1 (List.all_eq_true.1 ha f (by simpa using Array.mem_of_getElem? hj))
      simp [hd']
  have hrun := run_build (P := E.P) w t (parts.map fun p => (p.1, a.eval p.2)) out' hb'
  refine wp_val (u := .agg out') (w' := w) ?_ (hK _ ?_)
  · simp only [execOp, ho, Sem.run_bind, hrun, Result.andThen_ok, Sem.run_pure]
  · obtain ⟨l⟩ := out'
    refine .agg (by simpa using hr.1) fun j y hy => ?_
    have := hr.2 j y hy
    simpa [Array.getD_eq_getD_getElem?, List.getD] using this

theorem StepV.wp_slc (h : STr C s ρ a w) {t : TypeId} {x : Operand} {lo hi : Option Operand} {sz e l hh : Nat} {xs : List CV} {d de : TD} (hx : s.ev x = .c (.sl sz xs)) (ht : E.Ty t = some d) (hd : d.desc = .slice e) (he : E.Ty e = some de) (hs : de.sz = sz)
    (hlo : match lo with | some o => ∃ k n, s.ev o = .c (.v (.int k n)) ∧ 0 ≤ n ∧ n.toNat = l | none => l = 0)
    (hhi : match hi with | some o => ∃ k n, s.ev o = .c (.v (.int k n)) ∧ 0 ≤ n ∧ n.toNat = hh | none => hh = xs.length) (hlh : l ≤ hh) (hhl : hh ≤ xs.length)
    {o : Oper} (ho : o.op = .slice t x lo hi none) (hK : ∀ u, RepA w (LL C s.m ρ) ρ s.m u (.c (.sl sz ((xs.drop l).take (hh - l)))) → K (a.put o.dst u) w) : o.wp E.P a w K Q := by
  have hu := Env.und ht; rw [hd] at hu
  have hv := h.evR x; rw [hx] at hv
  obtain ⟨a', cap, hv, hcap, hmax, hsz, hc, hlen⟩ := hv.c_inv.sl_inv
  have hbounds : (Instr.sliceBounds true xs.length cap (lo.map a.eval) (hi.map a.eval) none).run E.P w = .ok (l, hh, cap) w := by
    unfold Instr.sliceBounds
    cases lo with
    | none =>
      simp only at hlo; subst hlo
      cases hi with
      | none => simp only at hhi; subst hhi; simp
      | some q =>
        obtain ⟨k, n, hq, h0, rfl⟩ := hhi
        have hqv := ev_int h hq
        simp [hqv, Instr.sliceBound, asIntOf, h0, show n ≤ (cap : Int) by omega]
    | some p =>
      obtain ⟨k, n, hp, h0, rfl⟩ := hlo
      have hpv := ev_int h hp
      cases hi with
      | none => simp only at hhi; subst hhi; simp [hpv, Instr.sliceBound, asIntOf, h0, show n ≤ (xs.length : Int) by omega]
      | some q =>
        obtain ⟨k', n', hq, h0', rfl⟩ := hhi
        have hqv := ev_int h hq
        simp [hqv, hpv, Instr.sliceBound, asIntOf, h0, h0', show n' ≤ (cap : Int) by omega, show n ≤ n' by omega]
        intro hlt; omega
  have hsl : ∃ p, (Instr.slice t (.slice a' xs.length cap) (lo.map a.eval) (hi.map a.eval) none).run E.P w = .ok (.slice p (hh - l) (cap - l)) w ∧
      (∀ b of, a' = some ⟨b, of, none⟩ → p = some ⟨b, if cap = l then of else of + l * sz, none⟩) := by
    refine ⟨if cap = l then a' else a'.map (·.add (l * sz)), ?_, fun b of e => ?_⟩
    · simp only [Instr.slice, Sem.run_bind, run_underlying hu, Result.andThen_ok, hbounds, Env.size he, hs, Sem.run_pure]
    · subst e
      split
      · rfl
      · simp [add_lit']
  obtain ⟨p, hrun, hp⟩ := hsl
  have hlen2 : ((xs.drop l).take (hh - l)).length = hh - l := by simp; omega
  refine wp_val (u := .slice p (hh - l) (cap - l)) (w' := w) ?_ (hK _ (.c (Rep.sl_mk (by rw [hlen2]) (by omega) (by omega) hsz (fun h0 => ?_) fun i y hy => ?_)))
  · have hev : lo.map a.eval = lo.map a.eval := rfl
    simp only [execOp, ho, hv, Sem.run_bind, Option.map_none]
    have : (Instr.sliceAt t (.slice a' xs.length cap) (lo.map a.eval) (hi.map a.eval) none).run E.P w = .ok (.slice p (hh - l) (cap - l)) w := by
      simp only [Instr.sliceAt, Sem.run_bind, run_underlying hu, Result.andThen_ok]
      exact hrun
    rw [this]; rfl
  · rw [hlen2] at h0
    obtain ⟨b, of, rfl, hb, hc⟩ := hc (by omega)
    refine ⟨b, _, hp b of rfl, hb, fun i y hi j z hz => ?_⟩
    rw [List.getElem?_take] at hi
    split at hi
    · rw [List.getElem?_drop] at hi
      obtain ⟨u, hu, hr⟩ := hc (l + i) y hi j z hz
      refine ⟨u, ?_, hr⟩
      rw [if_neg (by omega), ← hu]
      congr 2
      rw [Nat.add_mul]; omega
    · cases hi
  · rw [List.getElem?_take] at hy
    split at hy
    · rw [List.getElem?_drop] at hy; exact hlen _ y hy
    · cases hy

theorem callArgs (h : STr C s ρ a w) {args : Array Operand} {xs : List AV} {us : List Value} {cs : List CV} (hx : args.toList.map s.ev = xs) (ha : ToCs (xs ++ us.map fun u => .c (.v u)) cs) :
    (((args.map a.eval).toList ++ us : List Value)).length = cs.length ∧ ∀ (j : Nat) (y : CV), cs[j]? = some y → Rep w (LL C s.m ρ) (((args.map a.eval).toList ++ us : List Value).getD j undef) y := by
  have hl : (xs ++ us.map fun u => AV.c (.v u)).length = cs.length := ha.1
  subst hx
  refine ⟨by simpa using hl, fun j y hy => ?_⟩
  have hj : j < ((args.toList.map s.ev) ++ us.map fun u => AV.c (.v u)).length := by rw [hl]; exact (List.getElem?_eq_some_iff.1 hy).1
  have hto := ha.2 j _ y (List.getElem?_eq_getElem hj) hy
  refine hto.rep (ρ := ρ) (m := s.m) _ ?_
  by_cases hja : j < args.size
  · have h1 : (((args.toList.map s.ev) ++ us.map fun u => AV.c (.v u))[j]'hj) = s.ev args[j] := by
      rw [List.getElem_append_left (by simpa using hja)]; simp
    have h2 : ((args.map a.eval).toList ++ us).getD j undef = a.eval args[j] := by
      simp [List.getD, List.getElem?_append, hja]
    rw [h1, h2]; exact h.evR _
  · have hju : j - args.size < us.length := by simp at hj; omega
    have h1 : (((args.toList.map s.ev) ++ us.map fun u => AV.c (.v u))[j]'hj) = .c (.v (us[j - args.size])) := by
      rw [List.getElem_append_right (by simpa using Nat.le_of_not_lt hja)]; simp
    have h2 : ((args.map a.eval).toList ++ us).getD j undef = us[j - args.size] := by
      simp [List.getD, List.getElem?_append, hja, List.getElem?_eq_getElem hju]
    rw [h1, h2]; exact .c (.v _)

theorem StepV.wp_call (h : STr C s ρ a w) {callee : Operand} {args : Array Operand} {ats : Array TypeId} {f : FuncId} {us : List Value} {xs : List AV} {cs rs : List CV} (hc : s.ev callee = .c (.v (.func (.func f) #[] ⟨us⟩)))
    (hx : args.toList.map s.ev = xs) (ha : ToCs (xs ++ us.map fun u => .c (.v u)) cs) (hp : Pure E.P f cs rs) {o : Oper} (ho : o.op = .call { callee := .value callee, args := args, argTypes := ats })
    (hK : ∀ u w', Keep (fun _ => False) w w' → RepA w' (LL C s.m ρ) ρ s.m u (resAV rs) → K (a.put o.dst u) w') : o.wp E.P a w K Q := by
  obtain ⟨⟨fn, hf, hb, hname⟩, hp⟩ := hp
  obtain ⟨hl, hr⟩ := callArgs h hx ha
  have hcall := hp w (LL C s.m ρ) _ hl hr (fun b hb => h.live_lt hb)
  have hrun : (execOp a.eval o).run E.P w = .ok (.enter f (⟨(args.map a.eval).toList ++ us⟩)) w := by
    simp only [execOp, ho, resolve, ev_int h hc, Deferred.ofValue, Sem.run_bind, Sem.run_pure, Result.andThen_ok, invoke, callFunc, run_program, hf, hname, hb]
    simp
  unfold Oper.wp
  rw [hrun]
  simp only [Oper.upon]
  refine hcall.mono ?_
  rintro e w' ⟨v, rfl, hv, hk⟩
  exact hK v w' hk hv.repA

theorem Rep.fn_inv {L : Nat → Prop} {v : Value} {f : FuncId} {cs : List CV} (h : Rep w L v (.fn f cs)) : ∃ vs, v = .func (.func f) #[] ⟨vs⟩ ∧ vs.length = cs.length ∧ ∀ (j : Nat) (y : CV), cs[j]? = some y → Rep w L (vs.getD j undef) y := by
  cases h with | fn hn hx => exact ⟨_, rfl, hn, hx⟩

theorem callArgsF (h : STr C s ρ a w) {args : Array Operand} {xs : List AV} {us : List Value} {fs cs : List CV} (hx : args.toList.map s.ev = xs) (hn : us.length = fs.length) (hu : ∀ (j : Nat) (y : CV), fs[j]? = some y → Rep w (LL C s.m ρ) (us.getD j undef) y)
    (ha : ToCs (xs ++ fs.map .c) cs) :
    (((args.map a.eval).toList ++ us : List Value)).length = cs.length ∧ ∀ (j : Nat) (y : CV), cs[j]? = some y → Rep w (LL C s.m ρ) (((args.map a.eval).toList ++ us : List Value).getD j undef) y := by
  have hl : (xs ++ fs.map AV.c).length = cs.length := ha.1
  subst hx
  refine ⟨by simp at hl ⊢; omega, fun j y hy => ?_⟩
  have hj : j < ((args.toList.map s.ev) ++ fs.map AV.c).length := by rw [hl]; exact (List.getElem?_eq_some_iff.1 hy).1
  have hto := ha.2 j _ y (List.getElem?_eq_getElem hj) hy
  refine hto.rep (ρ := ρ) (m := s.m) _ ?_
  by_cases hja : j < args.size
  · have h1 : (((args.toList.map s.ev) ++ fs.map AV.c)[j]'hj) = s.ev args[j] := by
      rw [List.getElem_append_left (by simpa using hja)]; simp
    have h2 : ((args.map a.eval).toList ++ us).getD j undef = a.eval args[j] := by
      simp [List.getD, List.getElem?_append, hja]
    rw [h1, h2]; exact h.evR _
  · have hju : j - args.size < fs.length := by simp at hj; omega
    have h1 : (((args.toList.map s.ev) ++ fs.map AV.c)[j]'hj) = .c (fs[j - args.size]) := by
      rw [List.getElem_append_right (by simpa using Nat.le_of_not_lt hja)]; simp
    have h2 : ((args.map a.eval).toList ++ us).getD j undef = us.getD (j - args.size) undef := by
      simp [List.getD, List.getElem?_append, hja]
    rw [h1, h2]; exact .c (hu _ _ (List.getElem?_eq_getElem hju))

theorem StepV.wp_callF (h : STr C s ρ a w) {callee : Operand} {args : Array Operand} {ats : Array TypeId} {f : FuncId} {fs : List CV} {xs : List AV} {cs rs : List CV} (hc : s.ev callee = .c (.fn f fs))
    (hx : args.toList.map s.ev = xs) (ha : ToCs (xs ++ fs.map .c) cs) (hp : Pure E.P f cs rs) {o : Oper} (ho : o.op = .call { callee := .value callee, args := args, argTypes := ats })
    (hK : ∀ u w', Keep (fun _ => False) w w' → RepA w' (LL C s.m ρ) ρ s.m u (resAV rs) → K (a.put o.dst u) w') : o.wp E.P a w K Q := by
  obtain ⟨⟨fn, hf, hb, hname⟩, hp⟩ := hp
  have hcv := h.evR callee; rw [hc] at hcv
  obtain ⟨us, hcv, hun, hur⟩ := hcv.c_inv.fn_inv
  obtain ⟨hl, hr⟩ := callArgsF h hx hun hur ha
  have hcall := hp w (LL C s.m ρ) _ hl hr (fun b hb => h.live_lt hb)
  have hrun : (execOp a.eval o).run E.P w = .ok (.enter f (⟨(args.map a.eval).toList ++ us⟩)) w := by
    simp only [execOp, ho, resolve, hcv, Deferred.ofValue, Sem.run_bind, Sem.run_pure, Result.andThen_ok, invoke, callFunc, run_program, hf, hname, hb]
    simp
  unfold Oper.wp
  rw [hrun]
  simp only [Oper.upon]
  refine hcall.mono ?_
  rintro e w' ⟨v, rfl, hv, hk⟩
  exact hK v w' hk hv.repA

theorem StepV.wp_callX (h : STr C s ρ a w) {callee : Operand} {args : Array Operand} {ats : Array TypeId} {f : FuncId} {xs : List AV} {cs : List CV} {r : CV} (hc : s.ev callee = .c (.v (.func (.func f) #[] #[])))
    (hx : args.toList.map s.ev = xs) (ha : ToCs xs cs) (hp : PureX E.P f cs r) {o : Oper} (ho : o.op = .call { callee := .value callee, args := args, argTypes := ats })
    (hK : ∀ u, RepA w (LL C s.m ρ) ρ s.m u (.c r) → K (a.put o.dst u) w) : o.wp E.P a w K Q := by
  obtain ⟨hl, hr⟩ := callArgs (us := []) h hx (by simpa using ha)
  simp only [List.append_nil] at hl hr
  obtain ⟨v, hv, hrep⟩ := hp w (LL C s.m ρ) _ hl hr
  refine wp_val (u := v) (w' := w) ?_ (hK _ (.c hrep))
  simp only [execOp, ho, resolve, ev_int h hc, Deferred.ofValue, Sem.run_bind, Sem.run_pure, Result.andThen_ok, invoke]
  have e : (⟨(args.map a.eval).toList⟩ : Array Value) = args.map a.eval := rfl
  rw [e] at hv
  simpa using hv

theorem CV.scalar_rep {w w' : World} {L L' : Nat → Prop} {v : Value} {x : CV} (hs : x.scalar = true) (h : Rep w L v x) : Rep w' L' v x := by
  have hat : ∀ {v : Value} {x : CV}, x.atom = true → Rep w L v x → Rep w' L' v x := by
    intro v x ha hr
    cases hr with
    | v => exact .v _
    | fl h => exact .fl h
    | sl => simp [CV.atom] at ha
    | ad => simp [CV.atom] at ha
    | agg => simp [CV.atom] at ha
    | fn => simp [CV.atom] at ha
  cases h with
  | v => exact .v _
  | fl h => exact .fl h
  | sl => simp [CV.scalar, CV.atom] at hs
  | ad => simp [CV.scalar, CV.atom] at hs
  | agg hn hx =>
    simp only [CV.scalar, List.all_eq_true] at hs
    exact .agg hn fun j y hy => hat (hs y (List.mem_of_getElem? hy)) (hx j y hy)
  | fn => simp [CV.scalar, CV.atom] at hs
theorem ToB.sound (h : STr C s ρ a w) {L' : Nat → Prop} {xs : List AV} {cs : List CV} {R : List Nat} (hb : ToB s.m xs cs R) : (∀ b, L' b → LL C s.m ρ b) → (∀ i ∈ R, ∀ b, Value.blk (ρ i) = some b → ¬ L' b) →
    xs.length = cs.length ∧ ∀ (j : Nat) (x : AV) (y : CV), xs[j]? = some x → cs[j]? = some y → ∀ v, RepA w (LL C s.m ρ) ρ s.m v x → Rep w L' v y := by
  induction hb with
  | nil => exact fun _ _ => ⟨rfl, fun j x y hx => by simp at hx⟩
  | c hc hs ih =>
    intro h1 h2
    obtain ⟨hl, ih⟩ := ih h1 h2
    refine ⟨by simp [hl], fun j x y hx hy v hv => ?_⟩
    cases j with
    | zero => simp at hx hy; subst hx; subst hy; exact (hc.rep v hv).keep (fun b hb _ hb' => hb (h1 b hb')) fun _ _ _ => rfl
    | succ j => exact ih j x y (by simpa using hx) (by simpa using hy) v hv
  | ms hm hn hs ih =>
    rename_i i n sz e zs xs ys R
    intro h1 h2
    obtain ⟨hl, ih⟩ := ih h1 fun k hk => h2 k (by simp [hk])
    refine ⟨by simp [hl], fun j x y hx hy v hv => ?_⟩
    cases j with
    | succ j => exact ih j x y (by simpa using hx) (by simpa using hy) v hv
    | zero =>
      simp at hx hy; subst hx; subst hy
      rw [(hv.ms_inv _ _ _ hm).2 hn]
      obtain ⟨h0, vs, hown, hxx⟩ := h.obj i _ hm
      rcases hown.2 with ⟨e1, e2⟩ | ⟨g, cap, cur, e1, _, hgg, hnc, hcm, hcs, htake⟩
      · have hxs : zs = [] := List.eq_nil_of_length_eq_zero e2
        subst hxs
        rw [e1]
        exact Rep.sl_mk rfl (Nat.le_refl _) (by simp [maxLen]) h0 (fun h => absurd h (by simp)) (fun i x hx => by simp at hx)
      · rw [e1]
        refine Rep.sl_mk rfl hnc hcm h0 (fun hp => ⟨g, 0, rfl, h2 i (by simp) g (by rw [e1]; rfl), fun k x hkx j y hjy => ?_⟩) fun k x hkx => (hxx k x hkx).1
        obtain ⟨_, b, cap', hu, hc⟩ := (h.obj i _ hm).arr_cell hkx
        rw [e1] at hu; cases hu
        obtain ⟨u, hu, hr⟩ := hc j y hjy
        exact ⟨u, by simpa using hu, hr.keep (fun b hb _ hb' => hb (h1 b hb')) fun _ _ _ => rfl⟩
  | agg hu hs ihu ih =>
    intro h1 h2
    obtain ⟨hlu, ihu⟩ := ihu h1 fun k hk => h2 k (by simp [hk])
    obtain ⟨hl, ih⟩ := ih h1 fun k hk => h2 k (by simp [hk])
    refine ⟨by simp [hl], fun j x y hx hy v hv => ?_⟩
    cases j with
    | succ j => exact ih j x y (by simpa using hx) (by simpa using hy) v hv
    | zero =>
      simp at hx hy; subst hx; subst hy
      cases hv with
      | agg hn hxx =>
        refine .agg (by omega) fun j y hy => ?_
        have hj := (List.getElem?_eq_some_iff.1 hy).1
        rw [← hlu] at hj
        exact ihu j _ y (List.getElem?_eq_getElem hj) hy _ (hxx j _ (List.getElem?_eq_getElem hj))
theorem StepV.wp_callB (h : STr C s ρ a w) {callee : Operand} {args : Array Operand} {ats : Array TypeId} {f : FuncId} {us : List Value} {cs rs : List CV} {R : List Nat} (hc : s.ev callee = .c (.v (.func (.func f) #[] ⟨us⟩)))
    (hx : ToB s.m (args.toList.map s.ev ++ us.map fun u => .c (.v u)) cs R) (hp : Pure E.P f cs rs) (hsc : rs.all CV.scalar = true) {o : Oper} (ho : o.op = .call { callee := .value callee, args := args, argTypes := ats })
    (hK : ∀ u w', Keep (fun _ => False) w w' → RepA w' (LL C s.m ρ) ρ s.m u (resAV rs) → K (a.put o.dst u) w') : o.wp E.P a w K Q := by
  obtain ⟨⟨fn, hf, hb, hname⟩, hp⟩ := hp
  let L : Nat → Prop := fun b => LL C s.m ρ b ∧ ∀ i ∈ R, Value.blk (ρ i) ≠ some b
  obtain ⟨hl, hr⟩ := hx.sound h (L' := L) (fun b hb => hb.1) (fun i hi b hb hL => hL.2 i hi hb)
  have hcall := hp w L ((args.map a.eval).toList ++ us) (by simpa using hl) (fun j y hy => by
    have hj : j < ((args.toList.map s.ev) ++ us.map fun u => AV.c (.v u)).length := by rw [hl]; exact (List.getElem?_eq_some_iff.1 hy).1
    refine hr j _ y (List.getElem?_eq_getElem hj) hy _ ?_
    by_cases hja : j < args.size
    · have h1 : (((args.toList.map s.ev) ++ us.map fun u => AV.c (.v u))[j]'hj) = s.ev args[j] := by
        rw [List.getElem_append_left (by simpa using hja)]; simp
      have h2 : ((args.map a.eval).toList ++ us).getD j undef = a.eval args[j] := by
        simp [List.getD, List.getElem?_append, hja]
      rw [h1, h2]; exact h.evR _
    · have hju : j - args.size < us.length := by simp at hj; omega
      have h1 : (((args.toList.map s.ev) ++ us.map fun u => AV.c (.v u))[j]'hj) = .c (.v (us[j - args.size])) := by
        rw [List.getElem_append_right (by simpa using Nat.le_of_not_lt hja)]; simp
      have h2 : ((args.map a.eval).toList ++ us).getD j undef = us[j - args.size] := by
        simp [List.getD, List.getElem?_append, hja, List.getElem?_eq_getElem hju]
      rw [h1, h2]; exact .c (.v _)) (fun b hb => h.live_lt hb.1)
  have hrun : (execOp a.eval o).run E.P w = .ok (.enter f (⟨(args.map a.eval).toList ++ us⟩)) w := by
    simp only [execOp, ho, resolve, ev_int h hc, Deferred.ofValue, Sem.run_bind, Sem.run_pure, Result.andThen_ok, invoke, callFunc, run_program, hf, hname, hb]
    simp
  unfold Oper.wp
  rw [hrun]
  simp only [Oper.upon]
  refine hcall.mono ?_
  rintro e w' ⟨v, rfl, hv, hk⟩
  refine hK v w' hk (ResRel.repA (L := LL C s.m ρ) ?_)
  rw [List.all_eq_true] at hsc
  unfold ResRel at hv ⊢
  split at hv
  · exact CV.scalar_rep (hsc _ (by simp)) hv
  · obtain ⟨vs, rfl, hn, hx⟩ := hv
    exact ⟨vs, rfl, hn, fun j y hy => CV.scalar_rep (hsc y (List.mem_of_getElem? hy)) (hx j y hy)⟩

theorem fill_slice (sz : Nat) (h0 : 0 < sz) : ∀ (us : List Value) (k n : Nat) (vs : Array Value), vs.size = n * sz → k + us.length ≤ n → (∀ u ∈ us, u.cells.size = sz) →
    ∃ out, Instr.fill (fun i => some (i * sz, sz)) vs ((us.zipIdx k).map fun p => (p.2, p.1)) = some out ∧ out.size = n * sz ∧
      (∀ j, j < k * sz → out[j]? = vs[j]?) ∧ ∀ (i : Nat) (u : Value), us[i]? = some u → ∀ j, j < sz → out[(k + i) * sz + j]? = u.cells[j]?
  | [], k, n, vs, hs, hk, _ => ⟨vs, rfl, hs, fun _ _ => rfl, fun i u hu => by simp at hu⟩
  | u :: us, k, n, vs, hs, hk, hu => by
    have hus := hu u (by simp)
    have hkn : k * sz + sz ≤ n * sz := by rw [← Nat.succ_mul]; exact Nat.mul_le_mul_right _ (by simp at hk; omega)
    have hf0 : u.cells.zipIdx.foldl (fun cs (x : Value × Nat) => cs.setIfInBounds (k * sz + x.2) x.1) vs = ⟨vs.toList.take (k * sz) ++ u.cells.toList ++ vs.toList.drop (k * sz + sz)⟩ := by
      rw [← Array.foldl_toList, Array.toList_zipIdx, foldl_zip u.cells.toList (k * sz) 0 vs]
      apply Array.ext'
      simp only [Nat.add_zero, Array.length_toList]
      rw [List.take_of_length_le (l := u.cells.toList) (by rw [Array.length_toList]; omega), hus]
    obtain ⟨out, ho, hos, hold, hnew⟩ := fill_slice sz h0 us (k + 1) n ⟨vs.toList.take (k * sz) ++ u.cells.toList ++ vs.toList.drop (k * sz + sz)⟩ (by simp; omega) (by simp at hk; omega) (fun v hv => hu v (by simp [hv]))
    refine ⟨out, ?_, hos, fun j hj => ?_, fun i v hv j hj => ?_⟩
    · simp only [List.zipIdx_cons, List.map_cons, Instr.fill]
      rw [if_neg]
      · rw [hf0]; exact ho
      · simp only [Bool.or_eq_true, decide_eq_true_eq, not_or]
        exact ⟨by omega, by omega⟩
    · rw [hold j (by rw [Nat.succ_mul]; omega)]
      simp only [List.getElem?_toArray, List.append_assoc]
      rw [List.getElem?_append_left (by simp; omega), List.getElem?_take, if_pos hj]
      simp
    · cases i with
      | zero =>
        simp at hv; subst hv
        rw [Nat.add_zero, hold _ (by rw [Nat.succ_mul]; omega)]
        simp only [List.getElem?_toArray, List.append_assoc]
        rw [List.getElem?_append_right (by simp; omega), List.getElem?_append_left (by simp; omega)]
        simp
        congr 1; omega
      | succ i =>
        have := hnew i v (by simpa using hv) j hj
        rw [← this]; congr 2; rw [show k + (i + 1) = k + 1 + i by omega]
end
end Go.AM
