/- The abstract machine, part 20: calls that are handed objects of the caller's own, and hand some back. It speaks of whatever program. -/
import Derived.Test.YtafieicinmcngaaM12
namespace Go.AM
open Go Go.RowKit
set_option linter.unusedVariables false
set_option linter.unusedSimpArgs false

def m0 : Nat → Option Ob := fun _ => none
def mkM : List (Nat × Ob) → Nat → Option Ob
  | [] => m0
  | (d, o) :: r => updM (mkM r) d (some o)
theorem mkM_none {i : Nat} : ∀ {l : List (Nat × Ob)}, mkM l i = none ↔ i ∉ l.map (·.1)
  | [] => by simp [mkM, m0]
  | (d, o) :: r => by
    have ih := mkM_none (i := i) (l := r)
    by_cases e : i = d
    · subst e; simp [mkM, updM_same]
    · simp only [mkM, updM_ne _ _ e, ih, List.map_cons, List.mem_cons, not_or]; exact ⟨fun h => ⟨e, h⟩, fun h => h.2⟩
theorem mkM_mem {i : Nat} {o : Ob} : ∀ {l : List (Nat × Ob)}, mkM l i = some o → (i, o) ∈ l
  | [], h => by cases h
  | (d, p) :: r, h => by
    by_cases e : i = d
    · subst e; simp only [mkM, updM_same] at h; cases h; simp
    · simp only [mkM, updM_ne _ _ e] at h; exact List.mem_cons_of_mem _ (mkM_mem h)
theorem mkM_some {i : Nat} {l : List (Nat × Ob)} (h : i ∈ l.map (·.1)) : ∃ o, mkM l i = some o := by
  cases hm : mkM l i with
  | none => exact absurd h (mkM_none.1 hm)
  | some o => exact ⟨o, rfl⟩

def AS.noId (s : AS) (d : Nat) : Prop := (∀ j, NoId d (s.t j)) ∧ ∀ i o, s.m i = some o → o.noId d
/-- What is handed over, objects and all. -/
inductive ToA : AV → AV → Prop where
  | refl (x : AV) : ToA x x
  | c {x : AV} {y : CV} (h : ToC x y) : ToA x (.c y)
  | agg {xs ys : List AV} (hn : xs.length = ys.length) (h : ∀ (j : Nat) (x y : AV), xs[j]? = some x → ys[j]? = some y → ToA x y) : ToA (.agg xs) (.agg ys)
theorem ToA.rep {w : World} {L : Nat → Prop} {ρ : Nat → Value} {m : Nat → Option Ob} {x y : AV} (h : ToA x y) : ∀ v, RepA w L ρ m v x → RepA w L ρ m v y := by
  induction h with
  | refl x => exact fun v h => h
  | c h => exact fun v hv => .c (h.rep v hv)
  | agg hn h ih =>
    intro v hv
    cases hv with
    | agg hn' hx =>
      refine .agg (hn'.trans hn) fun j y hy => ?_
      rename_i xs ys vs
      have hj : j < xs.length := by rw [hn]; exact (List.getElem?_eq_some_iff.1 hy).1
      exact ih j _ y (List.getElem?_eq_getElem hj) hy _ (hx j _ (List.getElem?_eq_getElem hj))
theorem ToC.noId {x : AV} {y : CV} (h : ToC x y) (d : Nat) : NoId d x := by
  induction h with
  | c h => exact .c _
  | agg hn h ih =>
    refine .agg fun j x hx => ?_
    rename_i xs ys
    have hj : j < ys.length := by rw [← hn]; exact (List.getElem?_eq_some_iff.1 hx).1
    exact ih j x _ hx (List.getElem?_eq_getElem hj)
theorem ToA.noId {x y : AV} (h : ToA x y) (d : Nat) : NoId d x → NoId d y := by
  induction h with
  | refl x => exact id
  | c h => exact fun _ => .c _
  | agg hn h ih =>
    intro hx
    cases hx with
    | agg hx =>
      refine .agg fun j y hy => ?_
      rename_i xs ys
      have hj : j < xs.length := by rw [hn]; exact (List.getElem?_eq_some_iff.1 hy).1
      exact ih j _ y (List.getElem?_eq_getElem hj) hy (hx j _ (List.getElem?_eq_getElem hj))
def ToAs (xs ys : List AV) : Prop := xs.length = ys.length ∧ ∀ (j : Nat) (x y : AV), xs[j]? = some x → ys[j]? = some y → ToA x y
theorem ToAs.nil : ToAs [] [] := ⟨rfl, fun j x y hx => by simp at hx⟩
theorem ToAs.cons {x y : AV} {xs ys : List AV} (h : ToA x y) (hs : ToAs xs ys) : ToAs (x :: xs) (y :: ys) := by
  refine ⟨by simp [hs.1], fun j a b ha hb => ?_⟩
  cases j with
  | zero => simp at ha hb; subst ha; subst hb; exact h
  | succ j => simp at ha hb; exact hs.2 j a b ha hb
theorem ToA.aggs {xs ys : List AV} (h : ToAs xs ys) : ToA (.agg xs) (.agg ys) := .agg h.1 h.2

def ResA (w : World) (L : Nat → Prop) (ρ : Nat → Value) (m : Nat → Option Ob) (v : Value) (rs : List AV) : Prop :=
  match rs with
  | [x] => RepA w L ρ m v x
  | rs => ∃ vs, v = .tuple ⟨vs⟩ ∧ vs.length = rs.length ∧ ∀ (j : Nat) (y : AV), rs[j]? = some y → RepA w L ρ m (vs.getD j undef) y
def resA (rs : List AV) : AV :=
  match rs with
  | [x] => x
  | rs => .tup rs
theorem ResA.repA {w : World} {L : Nat → Prop} {ρ : Nat → Value} {m : Nat → Option Ob} {v : Value} {rs : List AV} (h : ResA w L ρ m v rs) : RepA w L ρ m v (resA rs) := by
  unfold ResA at h; unfold resA
  split at h
  · exact h
  · rename_i hne
    obtain ⟨vs, rfl, hn, hx⟩ := h
    exact .tup hn hx

/-- Objects stand as told, apart from one another and from what L names. -/
structure Objs (w : World) (L : Nat → Prop) (ρ : Nat → Value) (m : Nat → Option Ob) : Prop where
  obj : ∀ i o, m i = some o → ObRel w (fun b => L b ∨ live m ρ b) ρ m (ρ i) o
  own : ∀ i o b, m i = some o → Value.blk (ρ i) = some b → ¬ L b ∧ b < w.heap.size
  inj : ∀ i j oi oj b, m i = some oi → m j = some oj → Value.blk (ρ i) = some b → Value.blk (ρ j) = some b → i = j

def Ob.like : Ob → Ob → Prop
  | .box _, .box _ => True
  | .arr sz _ xs, .arr sz' _ xs' => sz = sz' ∧ xs.length = xs'.length
  | _, _ => False
/-- Nothing of these names d. -/
def NoMen (d : Nat) (xs : List AV) (m : List (Nat × Ob)) : Prop := (∀ x ∈ xs, NoId d x) ∧ ∀ p ∈ m, p.2.noId d
def newIds (a b : List (Nat × Ob)) : List Nat := (b.map (·.1)).filter fun i => !(a.map (·.1)).contains i
theorem mem_newIds {a b : List (Nat × Ob)} {i : Nat} : i ∈ newIds a b ↔ i ∈ b.map (·.1) ∧ i ∉ a.map (·.1) := by
  unfold newIds; rw [List.mem_filter]; simp

/-- A function that is handed objects (a), and hands objects back (b): one that it has kept stands where it stood. -/
structure Own (P : Program) (f : FuncId) (xs : List AV) (a : List (Nat × Ob)) (rs : List AV) (b : List (Nat × Ob)) : Prop where
  body : HasBody P f
  like : ∀ i o o', mkM a i = some o → mkM b i = some o' → o.like o'
  clo : ∀ k, k ∉ a.map (·.1) → k ∉ b.map (·.1) → NoMen k rs b
  root : ∀ k, k ∈ a.map (·.1) → ¬ NoMen k xs a
  call : ∀ (w : World) (L : Nat → Prop) (ρ : Nat → Value) (vs : List Value), vs.length = xs.length →
    (∀ (j : Nat) (y : AV), xs[j]? = some y → RepA w (fun b => L b ∨ live (mkM a) ρ b) ρ (mkM a) (vs.getD j undef) y) → (∀ b, L b → b < w.heap.size) → Objs w L ρ (mkM a) →
    Calls P f ⟨vs⟩ w fun e w' => ∃ v ρ', e = .returned v ∧ ResA w' (fun k => L k ∨ live (mkM b) ρ' k) ρ' (mkM b) v rs ∧ Objs w' L ρ' (mkM b) ∧ Keep (live (mkM a) ρ) w w' ∧
      (∀ i o k, mkM b i = some o → Value.blk (ρ' i) = some k → live (mkM a) ρ k ∨ w.heap.size ≤ k) ∧ ∀ i o o', mkM a i = some o → mkM b i = some o' → ρ' i = ρ i

def updMs (m : Nat → Option Ob) : List (Nat × Option Ob) → Nat → Option Ob
  | [] => m
  | (i, o) :: r => updMs (updM m i o) r
def ownW (a b : List (Nat × Ob)) : List (Nat × Option Ob) := a.map (fun p => (p.1, none)) ++ b.map fun p => (p.1, some p.2)
theorem updMs_append : ∀ (a b : List (Nat × Option Ob)) (m : Nat → Option Ob), updMs m (a ++ b) = updMs (updMs m a) b
  | [], b, m => rfl
  | (i, o) :: r, b, m => updMs_append r b (updM m i o)
theorem updMs_nones : ∀ (a : List (Nat × Ob)) (m : Nat → Option Ob) (i : Nat), updMs m (a.map fun p => (p.1, none)) i = if i ∈ a.map (·.1) then none else m i
  | [], m, i => by simp [updMs]
  | (k, o) :: r, m, i => by
    simp only [List.map_cons, updMs, updMs_nones r, List.mem_cons]
    by_cases h1 : i ∈ r.map (·.1)
    · simp [h1]
    · by_cases h2 : i = k
      · subst h2; simp [h1, updM_same]
      · rw [if_neg h1, if_neg (by simp [h2, h1]), updM_ne _ _ h2]
theorem updMs_somes : ∀ (b : List (Nat × Ob)) (m : Nat → Option Ob) (i : Nat), (b.map (·.1)).Nodup → updMs m (b.map fun p => (p.1, some p.2)) i = match mkM b i with | some o => some o | none => m i
  | [], m, i, _ => rfl
  | (k, o) :: r, m, i, hn => by
    simp only [List.map_cons, List.nodup_cons] at hn
    simp only [List.map_cons, updMs]
    rw [updMs_somes r _ i hn.2]
    by_cases h2 : i = k
    · subst h2
      rw [mkM_none.2 hn.1]; simp [mkM, updM_same]
    · simp [mkM, updM_ne _ _ h2]
theorem ownW_eq {a b : List (Nat × Ob)} (hb : (b.map (·.1)).Nodup) (m : Nat → Option Ob) (i : Nat) :
    updMs m (ownW a b) i = match mkM b i with | some o => some o | none => if i ∈ a.map (·.1) then none else m i := by
  unfold ownW; rw [updMs_append, updMs_somes b _ i hb, updMs_nones]

section
variable {E : Env} {C : Ctx} {s : AS} {ρ : Nat → Value} {a : Act} {w : World} {K : Act → World → Prop} {Q : Exit → Act → World → Prop}

theorem argsA (h : STr C s ρ a w) {args : Array Operand} {us : List Value} {xs : List AV} (hx : ToAs (args.toList.map s.ev ++ us.map fun u => .c (.v u)) xs) :
    (((args.map a.eval).toList ++ us : List Value)).length = xs.length ∧ ∀ (j : Nat) (y : AV), xs[j]? = some y → RepA w (LL C s.m ρ) ρ s.m (((args.map a.eval).toList ++ us : List Value).getD j undef) y := by
  have hl := hx.1
  refine ⟨by simpa using hl, fun j y hy => ?_⟩
  have hj : j < ((args.toList.map s.ev) ++ us.map fun u => AV.c (.v u)).length := by rw [hl]; exact (List.getElem?_eq_some_iff.1 hy).1
  have hto := hx.2 j _ y (List.getElem?_eq_getElem hj) hy
  refine hto.rep (ρ := ρ) (m := s.m) _ ?_
  by_cases hja : j < args.size
  · have h1 : (((args.toList.map s.ev) ++ us.map fun u => AV.c (.v u))[j]'hj) = s.ev args[j] := by
      rw [List.getElem_append_left (by simpa using hja)]; simp
    have h2 : ((args.map a.eval).toList ++ us).getD j undef = a.eval args[j] := by
      simp [List.getD, List.getElem?_append, hja]
    rw [h1, h2]; exact h.evR _
  · have hju : j - args.size < us.length := by simp at hj; omega
    have h1 : (((args.toList.map s.ev) ++ us.map fun u => AV.c (.v u))[j]'hj) = .c (.v (us[j - args.size])) := by
      rw [List.getElem_append_right (by simpa using Nat.le_of_not_lt hja)]; simp
    have h2 : ((args.map a.eval).toList ++ us).getD j undef = us[j - args.size] := by
      simp [List.getD, List.getElem?_append, hja, List.getElem?_eq_getElem hju]
    rw [h1, h2]; exact .c (.v _)

/-- A CALL THAT IS HANDED OBJECTS. -/
theorem wp_own (h : STr C s ρ a w) {callee : Operand} {args : Array Operand} {ats : Array TypeId} {f : FuncId} {us : List Value} {xs rs : List AV} {oa ob : List (Nat × Ob)}
    (hc : s.ev callee = .c (.v (.func (.func f) #[] ⟨us⟩))) (hx : ToAs (args.toList.map s.ev ++ us.map fun u => .c (.v u)) xs) (hm : ∀ p ∈ oa, s.m p.1 = some p.2) (hnb : (ob.map (·.1)).Nodup)
    (hlt : ∀ d ∈ newIds oa ob, d < 1000000) (hF : ∀ d ∈ newIds oa ob, s.noId d) (hp : Own E.P f xs oa rs ob) {o : Oper} (ho : o.op = .call { callee := .value callee, args := args, argTypes := ats })
    (hK : ∀ u w' ρ', STr C ⟨s.t, updMs s.m (ownW oa ob)⟩ ρ' a w' → RepA w' (LL C (updMs s.m (ownW oa ob)) ρ') ρ' (updMs s.m (ownW oa ob)) u (resA rs) → K (a.put o.dst u) w') : o.wp E.P a w K Q := by
  obtain ⟨fn, hf, hbd, hname⟩ := hp.body
  obtain ⟨hl, hr⟩ := argsA h hx
  have hsub : ∀ i o, mkM oa i = some o → s.m i = some o := fun i o hi => hm _ (mkM_mem hi)
  have hliv : ∀ b, live (mkM oa) ρ b → live s.m ρ b := fun b ⟨i, o, hi, hb⟩ => ⟨i, o, hsub i o hi, hb⟩
  let L : Nat → Prop := fun b => C.L0 b ∨ ∃ i o, s.m i = some o ∧ mkM oa i = none ∧ Value.blk (ρ i) = some b
  have hLb : ∀ b, L b → b < w.heap.size := by
    rintro b (hb | ⟨i, o, hi, _, hb⟩)
    · exact Nat.lt_of_lt_of_le (h.old b hb) h.keep.size
    · exact (h.own i o b hi hb).2
  have hA1 : ∀ b, L b ∨ live (mkM oa) ρ b → LL C s.m ρ b := by
    rintro b ((hb | ⟨i, o, hi, _, hb⟩) | hb)
    · exact .inl hb
    · exact .inr ⟨i, o, hi, hb⟩
    · exact .inr (hliv b hb)
  have hT : ∀ i, Turns s.m (mkM oa) ρ ρ i := by
    intro i
    cases hi : mkM oa i with
    | none => exact .inl hi
    | some o => exact .inr (.inr ⟨rfl, .inl (by rw [hi, hsub i o hi])⟩)
  have hobjs : Objs w L ρ (mkM oa) := by
    refine ⟨fun i o hi => ?_, fun i o b hi hb => ⟨?_, (h.own i o b (hsub i o hi) hb).2⟩, fun i j oi oj b hi hj => h.inj i j oi oj b (hsub _ _ hi) (hsub _ _ hj)⟩
    · exact (h.obj i o (hsub i o hi)).keep (fun b hb _ hb' => hb (hA1 b hb')) (fun _ _ _ => rfl) (fun _ _ => rfl) fun k => .inr (hT k)
    · rintro (hL | ⟨j, oj, hj, hn, hbj⟩)
      · rcases (h.own i o b (hsub i o hi) hb).1 with ht | ht
        · exact C.hT b ht hL
        · have := h.old b hL; omega
      · have := h.inj i j o oj b (hsub i o hi) hj hb hbj
        subst this; rw [hi] at hn; cases hn
  have hcall := hp.call w L ρ _ hl (fun j y hy => (hr j y hy).keep (fun b hb _ hb' => hb (hA1 b hb')) (fun _ _ _ => rfl) fun k => .inr (hT k)) hLb hobjs
  have hrun : (execOp a.eval o).run E.P w = .ok (.enter f (⟨(args.map a.eval).toList ++ us⟩)) w := by
    simp only [execOp, ho, resolve, ev_int h hc, Deferred.ofValue, Sem.run_bind, Sem.run_pure, Result.andThen_ok, invoke, callFunc, run_program, hf, hname, hbd]
    simp
  unfold Oper.wp
  rw [hrun]
  simp only [Oper.upon]
  refine hcall.mono ?_
  rintro e w' ⟨v, ρ', rfl, hres, hob, hk, hpl, hfx⟩
  -- what it has become
  let ρ'' : Nat → Value := fun k => match mkM ob k with | some _ => ρ' k | none => ρ k
  have hm' : ∀ i, updMs s.m (ownW oa ob) i = match mkM ob i with | some o => some o | none => if i ∈ oa.map (·.1) then none else s.m i := ownW_eq hnb s.m
  have hρs : ∀ {i o}, mkM ob i = some o → ρ'' i = ρ' i := fun {i o} hi => by simp only [ρ'', hi]
  have hρn : ∀ {i}, mkM ob i = none → ρ'' i = ρ i := fun {i} hi => by simp only [ρ'', hi]
  have hcase : ∀ i o, updMs s.m (ownW oa ob) i = some o → (mkM ob i = some o) ∨ (mkM ob i = none ∧ mkM oa i = none ∧ s.m i = some o) := by
    intro i o hi
    rw [hm'] at hi
    cases hb : mkM ob i with
    | some o' => rw [hb] at hi; cases hi; exact .inl rfl
    | none =>
      rw [hb] at hi
      simp only at hi
      split at hi
      · cases hi
      · rename_i hn; exact .inr ⟨rfl, mkM_none.2 hn, hi⟩
  have hnew : ∀ i o, mkM ob i = some o → mkM oa i = none → s.noId i := fun i o hi hn =>
    hF i (mem_newIds.2 ⟨List.mem_map.2 ⟨_, mkM_mem hi, rfl⟩, mkM_none.1 hn⟩)
  have hTT : ∀ i, (mkM oa i = none ∧ ∃ o, mkM ob i = some o) ∨ Turns s.m (updMs s.m (ownW oa ob)) ρ ρ'' i := by
    intro i
    cases hb : mkM ob i with
    | some o' =>
      cases ha : mkM oa i with
      | none => exact .inl ⟨rfl, o', rfl⟩
      | some o =>
        have hlk := hp.like i o o' ha hb
        have h1 : updMs s.m (ownW oa ob) i = some o' := by rw [hm', hb]
        refine .inr (.inr (.inr ⟨by rw [hρs hb]; exact hfx i o o' ha hb, ?_⟩))
        cases o <;> cases o' <;> simp only [Ob.like] at hlk
        · exact .inr (.inl ⟨_, _, hsub _ _ ha, h1⟩)
        · obtain ⟨rfl, hl⟩ := hlk
          exact .inr (.inr ⟨_, _, _, _, _, hsub _ _ ha, h1, hl⟩)
    | none =>
      refine .inr ?_
      by_cases hi : i ∈ oa.map (·.1)
      · exact .inl (by rw [hm', hb]; simp only [if_pos hi])
      · exact .inr (.inr ⟨hρn hb, .inl (by rw [hm', hb]; simp only [if_neg hi])⟩)
  have hTn : ∀ i, s.noId i ∨ Turns s.m (updMs s.m (ownW oa ob)) ρ ρ'' i := by
    intro i
    rcases hTT i with ⟨hn, o, ho⟩ | ht
    · exact .inl (hnew i o ho hn)
    · exact .inr ht
  have hLL : ∀ b, LL C (updMs s.m (ownW oa ob)) ρ'' b → L b ∨ live (mkM ob) ρ' b := by
    rintro b (hb | ⟨i, o, hi, hb⟩)
    · exact .inl (.inl hb)
    · rcases hcase i o hi with hi' | ⟨h1, h2, h3⟩
      · rw [hρs hi'] at hb; exact .inr ⟨i, o, hi', hb⟩
      · rw [hρn h1] at hb; exact .inl (.inr ⟨i, o, h3, h2, hb⟩)
  have hTb : ∀ k, (k ∉ oa.map (·.1) ∧ k ∉ ob.map (·.1)) ∨ Turns (mkM ob) (updMs s.m (ownW oa ob)) ρ' ρ'' k := by
    intro k
    cases hb : mkM ob k with
    | some o => exact .inr (.inr (.inr ⟨hρs hb, .inl (by rw [hm', hb])⟩))
    | none =>
      by_cases hi : k ∈ oa.map (·.1)
      · exact .inr (.inl (by rw [hm', hb]; simp only [if_pos hi]))
      · exact .inl ⟨hi, mkM_none.1 hb⟩
  have hst : STr C ⟨s.t, updMs s.m (ownW oa ob)⟩ ρ'' a w' := by
    refine h.turn (hk.mono fun b _ hb => hliv b hb) ?_ (fun i => ?_) ?_ ?_ ?_ ?_
    · rintro b ⟨i, o, hi, hb⟩
      rcases hcase i o hi with hi' | ⟨h1, h2, h3⟩
      · rw [hρs hi'] at hb
        rcases hpl i o b hi' hb with hh | hh
        · exact .inl (hliv b hh)
        · exact .inr hh
      · rw [hρn h1] at hb; exact .inl ⟨i, o, h3, hb⟩
    · rcases hTn i with hh | hh
      · exact .inl hh.1
      · exact .inr hh
    · intro hL' hw i o hi
      rcases hcase i o hi with hi' | ⟨h1, h2, h3⟩
      · rw [hρs hi']
        refine (hob.obj i o hi').keep (fun b hb _ hb' => hb (hLL b hb')) (fun _ _ _ => rfl) (fun _ _ => rfl) fun k => ?_
        rcases hTb k with ⟨k1, k2⟩ | hh
        · exact .inl ((hp.clo k k1 k2).2 _ (mkM_mem hi'))
        · exact .inr hh
      · rw [hρn h1]
        refine (h.obj i o h3).keep hL' hw (fun b hb => hk.block b (h.own i o b h3 hb).2 ?_) fun k => ?_
        · rintro ⟨j, oj, hj, hbj⟩
          have := h.inj i j o oj b h3 (hsub j oj hj) hb hbj
          subst this; rw [h2] at hj; cases hj
        · rcases hTn k with hh | hh
          · exact .inl (hh.2 i o h3)
          · exact .inr hh
    · intro i o b hi hb
      rcases hcase i o hi with hi' | ⟨h1, h2, h3⟩
      · rw [hρs hi'] at hb
        refine ⟨?_, (hob.own i o b hi' hb).2⟩
        rcases hpl i o b hi' hb with ⟨j, oj, hj, hbj⟩ | hh
        · exact (h.own j oj b (hsub j oj hj) hbj).1
        · have := h.keep.size; exact .inr (by omega)
      · rw [hρn h1] at hb
        have := h.own i o b h3 hb
        have := hk.size
        exact ⟨(h.own i o b h3 hb).1, by omega⟩
    · have mix : ∀ i j oi oj b, mkM ob i = some oi → mkM oa j = none → s.m j = some oj → Value.blk (ρ' i) = some b → Value.blk (ρ j) = some b → False := fun i j oi oj b hi hj1 hj2 hbi hbj =>
        (hob.own i oi b hi hbi).1 (.inr ⟨j, oj, hj2, hj1, hbj⟩)
      intro i j oi oj b hi hj hbi hbj
      rcases hcase i oi hi with hi' | ⟨h1, h2, h3⟩
      · rw [hρs hi'] at hbi
        rcases hcase j oj hj with hj' | ⟨g1, g2, g3⟩
        · rw [hρs hj'] at hbj; exact hob.inj i j oi oj b hi' hj' hbi hbj
        · rw [hρn g1] at hbj; exact (mix i j oi oj b hi' g2 g3 hbi hbj).elim
      · rw [hρn h1] at hbi
        rcases hcase j oj hj with hj' | ⟨g1, g2, g3⟩
        · rw [hρs hj'] at hbj; exact (mix j i oj oi b hj' h2 h3 hbj hbi).elim
        · rw [hρn g1] at hbj; exact h.inj i j oi oj b h3 g3 hbi hbj
    · intro i hi
      cases hb : mkM ob i with
      | none => exact hρn hb
      | some o' =>
        cases ha : mkM oa i with
        | none =>
          have := hlt i (mem_newIds.2 ⟨List.mem_map.2 ⟨_, mkM_mem hb, rfl⟩, mkM_none.1 ha⟩)
          omega
        | some o => rw [hρs hb]; exact hfx i o o' ha hb
  refine hK v w' ρ'' hst (hres.repA.keep (fun b hb _ hb' => hb (hLL b hb')) (fun _ _ _ => rfl) fun k => ?_)
  rcases hTb k with ⟨k1, k2⟩ | hh
  · refine .inl ?_
    have := (hp.clo k k1 k2).1
    unfold resA
    split
    · exact this _ (by simp)
    · exact .tup fun j y hy => this y (List.mem_of_getElem? hy)
  · exact .inr hh
end
end Go.AM
