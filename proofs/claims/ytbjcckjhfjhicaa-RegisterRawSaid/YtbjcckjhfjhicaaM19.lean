/- The abstract machine, part 19: a function's contract out of its code. It speaks of whatever program. -/
import Derived.Test.YtbjcckjhfjhicaaM18
namespace Go.AM
open Go Go.RowKit
set_option linter.unusedVariables false
set_option linter.unusedSimpArgs false

inductive RetV (E : Env) (s : AS) : ResultVar → CV → Prop where
  | tmp {t : Tmp} {y : CV} (h : WkA s.m (fun _ => none) (s.t t) (.c y)) : RetV E s (.tmp t) y
  | cellS {t : Tmp} {ty : TypeId} {i off : Nat} {cells : List AV} {d : TD} {x : AV} {y : CV} (ht : s.t t = .loc i off) (hm : s.m i = some (.box cells)) (hd : E.Ty ty = some d) (ha : aggD d.desc = false)
      (hx : cells[off]? = some x) (h : WkA s.m (fun _ => none) x (.c y)) : RetV E s (.cell t ty) y
  | cellA {t : Tmp} {ty : TypeId} {i off : Nat} {cells : List AV} {d : TD} {y : CV} (ht : s.t t = .loc i off) (hm : s.m i = some (.box cells)) (hd : E.Ty ty = some d) (ha : aggD d.desc = true)
      (hl : off + d.sz ≤ cells.length) (h : WkA s.m (fun _ => none) (.agg ((cells.drop off).take d.sz)) (.c y)) : RetV E s (.cell t ty) y
inductive RetL (E : Env) (s : AS) : List ResultVar → List CV → Prop where
  | nil : RetL E s [] []
  | cons {r : ResultVar} {x : CV} {rs : List ResultVar} {xs : List CV} (h : RetV E s r x) (hs : RetL E s rs xs) : RetL E s (r :: rs) (x :: xs)

def retQ (E : Env) (rvs : List ResultVar) (rs : List CV) : Ex → AS → Prop
  | .exit _, _ => False
  | _, s => RetL E s rvs rs

section
variable {E : Env} {C : Ctx} {s : AS} {ρ : Nat → Value} {a : Act} {w : World}

def rvRun (tmps : Array Value) : ResultVar → Sem Value
  | .tmp t => pure (tmps.getD t undef)
  | .cell a t => do loadVar t (← asAddr (tmps.getD a undef))

theorem loadAt_eq (t : TypeId) (a : Addr) (w : World) (P : Program) : (Instr.loadAt t (.pointer (some a))).run P w = (loadVar t a).run P w := by
  simp [Instr.loadAt, Instr.sureAddr]

theorem RetV.run (h : STr C s ρ a w) (hT : ∀ b, C.T0 b → ¬ C.L0 b) {r : ResultVar} {y : CV} (hr : RetV E s r y) : ∃ v, (rvRun a.tmps r).run E.P w = .ok v w ∧ Rep w C.L0 v y := by
  have hk : Wk s ⟨fun _ => .any, fun _ => none⟩ := ⟨fun j => .any _, fun i o hi => by cases hi⟩
  have hLL : ∀ b, LL C (fun _ => none) ρ b → C.L0 b := by
    rintro b (hb | ⟨i, o, hi, _⟩)
    · exact hb
    · cases hi
  have fin : ∀ v x, RepA w (LL C s.m ρ) ρ s.m v x → WkA s.m (fun _ => none) x (.c y) → Rep w C.L0 v y := fun v x hv hx =>
    ((hx.sound (s' := ⟨fun _ => .any, fun _ => none⟩) h hk hT v hv).c_inv).keep (fun b hb _ hb' => hb (.inl hb')) fun _ _ _ => rfl
  cases hr with
  | tmp hx => exact ⟨_, rfl, fin _ _ (h.tmp _) hx⟩
  | cellS ht hm hd ha hx hw =>
    rename_i t ty i off cells d x
    have hv := h.tmp t; rw [ht] at hv
    obtain ⟨b, hρ, hv⟩ := hv.loc_inv _ hm
    obtain ⟨b', cs, ty', hu, hheap, hsz, hc, _⟩ := (h.obj i _ hm).box_cell
    rw [hρ] at hu; cases hu
    refine ⟨_, ?_, fin _ _ (hc off x hx).2 hw⟩
    have := run_loadS hd ha w b off _ (hc off x hx).1
    rw [loadAt_eq] at this
    simp only [rvRun, hv, Sem.run_bind, asAddr, Sem.run_pure, Result.andThen_ok, this]
  | cellA ht hm hd ha hl hw =>
    rename_i t ty i off cells d
    have hv := h.tmp t; rw [ht] at hv
    obtain ⟨b, hρ, hv⟩ := hv.loc_inv _ hm
    obtain ⟨b', cs, ty', hu, hheap, hsz, hc, _⟩ := (h.obj i _ hm).box_cell
    rw [hρ] at hu; cases hu
    have hlen : ((cs.toList.drop off).take d.sz).length = d.sz := by simp; omega
    have hcell : ∀ (j : Nat) (u : Value), ((cs.toList.drop off).take d.sz)[j]? = some u → w.cell? ⟨b, off + j, none⟩ = some u := by
      intro j u hj
      rw [List.getElem?_take] at hj
      split at hj
      · rw [List.getElem?_drop] at hj
        rw [cell_of_row w b (off + j) cs ty' (0, 0) hheap]
        simpa using hj
      · cases hj
    have hrun := run_loadAg hd ha w b off _ hlen hcell
    rw [loadAt_eq] at hrun
    refine ⟨.agg ⟨(cs.toList.drop off).take d.sz⟩, ?_, fin _ _ (.agg (by rw [hlen]; simp; omega) fun j z hz => ?_) hw⟩
    · simp only [rvRun, hv, Sem.run_bind, asAddr, Sem.run_pure, Result.andThen_ok, hrun]
    · rw [List.getElem?_take] at hz
      split at hz
      · rename_i hjs
        rw [List.getElem?_drop] at hz
        have := (hc _ z hz).2
        rw [show ((cs.toList.drop off).take d.sz).getD j undef = cs.getD (off + j) undef by simp [List.getD, List.getElem?_take, hjs, Array.getD_eq_getD_getElem?]]
        exact this
      · cases hz

theorem RetL.run (h : STr C s ρ a w) (hT : ∀ b, C.T0 b → ¬ C.L0 b) : ∀ {rvs : List ResultVar} {rs : List CV}, RetL E s rvs rs →
    ∃ vs, (rvs.mapM (rvRun a.tmps)).run E.P w = .ok vs w ∧ vs.length = rs.length ∧ ∀ (j : Nat) (y : CV), rs[j]? = some y → Rep w C.L0 (vs.getD j undef) y
  | [], _, .nil => ⟨[], by simp, rfl, fun j y hy => by simp at hy⟩
  | r :: rvs, x :: rs, .cons hr hs => by
    obtain ⟨v, h1, h2⟩ := hr.run h hT
    obtain ⟨vs, h3, h4, h5⟩ := RetL.run h hT hs
    refine ⟨v :: vs, by simp [List.mapM_cons, h1, h3], by simp [h4], fun j y hy => ?_⟩
    cases j with
    | zero => simp at hy; subst hy; exact h2
    | succ j => simpa using h5 j y (by simpa using hy)

theorem results_run {fn : Func} {rvs : List ResultVar} (hr : fn.results = ⟨rvs⟩) (h : STr C s ρ a w) (hT : ∀ b, C.T0 b → ¬ C.L0 b) {rs : List CV} (hl : RetL E s rvs rs) :
    ∃ v, (results fn a.tmps).run E.P w = .ok v w ∧ ResRel w C.L0 v rs := by
  obtain ⟨vs, h1, h2, h3⟩ := hl.run h hT
  have he : results fn a.tmps = (do let vs ← (⟨rvs⟩ : Array ResultVar).mapM (rvRun a.tmps); pure (if h : vs.size = 1 then vs[0] else .tuple vs)) := by
    unfold results
    rw [hr]
    rfl
  have hm : ((⟨rvs⟩ : Array ResultVar).mapM (rvRun a.tmps)).run E.P w = .ok ⟨vs⟩ w := by
    rw [Array.mapM_eq_mapM_toList]
    simp [h1]
  refine ⟨if h : vs.length = 1 then vs[0] else .tuple ⟨vs⟩, ?_, ?_⟩
  · rw [he]
    simp only [Sem.run_bind, hm, Result.andThen_ok, Sem.run_pure]
    by_cases h1 : vs.length = 1
    · simp [h1]
    · simp [h1]
  · unfold ResRel
    split
    · rename_i x
      have hl1 : vs.length = 1 := by simpa using h2
      rw [dif_pos hl1]
      have := h3 0 x rfl
      rwa [show vs.getD 0 undef = vs[0] by simp [List.getD, hl1]] at this
    · rename_i hne
      have hl1 : ¬ vs.length = 1 := by
        intro e
        rw [h2] at e
        obtain ⟨x, hx⟩ := List.length_eq_one_iff.1 e
        exact hne x hx
      rw [dif_neg hl1]
      exact ⟨vs, rfl, h2, h3⟩

/-- How a function of content begins. -/
def argT (args : List CV) : Nat → AV := fun j => match args[j]? with | some x => .c x | none => .any
def AS.init (args : List CV) : AS := ⟨argT args, fun _ => none⟩

theorem Pure.of {f : FuncId} {fn : Func} {c : Code} {args rs : List CV} {rvs : List ResultVar} (hf : E.P.funcs[f]? = some fn) (hb : fn.body = some c) (hname : (fn.name == "runtime.NumGoroutine") = false) (hr : fn.results = ⟨rvs⟩)
    (hn : args.length ≤ fn.ntmps) (h : ∀ C : Ctx, C.n = fn.ntmps → (∀ b, C.T0 b → ¬ C.L0 b) → CQ E C c (AS.init args) (retQ E rvs rs)) : Pure E.P f args rs := by
  refine ⟨⟨fn, hf, by rw [hb]; rfl, hname⟩, fun w L vs hl hx hL => ?_⟩
  refine calls_of_wp hf hb ?_
  have hC := h ⟨w, fun _ => False, L, fn.ntmps⟩ rfl (fun b h => h.elim)
  have hst : ST ⟨w, fun _ => False, L, fn.ntmps⟩ (AS.init args) { tmps := ⟨vs⟩ ++ Array.replicate (fn.ntmps - (⟨vs⟩ : Array Value).size) undef, defers := [] } w := by
    have hnone : ∀ (i : Nat) (o : Ob), (AS.init args).m i = some o → False := fun i o hi => by simp [AS.init] at hi
    refine ⟨fun _ => undef, { keep := Keep.refl _ _, old := hL, size := by simp; omega, defers := rfl, obj := fun i o hi => (hnone i o hi).elim, own := fun i o b hi => (hnone i o hi).elim, inj := fun i j oi oj b hi => (hnone i oi hi).elim, tmp := fun j => ?_ }⟩
    show RepA _ _ _ _ _ (match args[j]? with | some x => AV.c x | none => .any)
    cases hj : args[j]? with
    | none => exact .any _
    | some x =>
      have hjl : j < vs.length := by rw [hl]; exact (List.getElem?_eq_some_iff.1 hj).1
      have e : (((⟨vs⟩ : Array Value) ++ Array.replicate (fn.ntmps - (⟨vs⟩ : Array Value).size) undef).getD j undef) = vs.getD j undef := by
        simp [Array.getD_eq_getD_getElem?, Array.getElem?_append, hjl, List.getD]
      rw [e]
      refine .c ((hx j x hj).keep (fun b hb _ hb' => ?_) fun _ _ _ => rfl)
      rcases hb' with hb' | ⟨i, o, hi, _⟩
      · exact hb hb'
      · cases hi
  refine Code.wp_mono ?_ (hC _ _ hst)
  rintro e a' w' ⟨x, s', he, hq, ρ, hs'⟩
  have fin : RetL E s' rvs rs → a'.defers = [] ∧ ∃ v, (results fn a'.tmps).run E.P w' = .ok v w' ∧ ∃ v', Ending.returned v = .returned v' ∧ ResRel w' L v' rs ∧ Keep (fun _ => False) w w' := by
    intro hl
    obtain ⟨v, h1, h2⟩ := results_run hr hs' (fun b h => h.elim) hl
    exact ⟨hs'.defers, v, h1, v, rfl, h2, hs'.keep⟩
  cases e <;> simp [Ex.ofExit] at he <;> subst he
  · exact fin hq
  · exact hq.elim
  · exact fin hq
end
end Go.AM
