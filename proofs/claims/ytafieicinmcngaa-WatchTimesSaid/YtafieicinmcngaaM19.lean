/- The abstract machine, part 19: a function's contract out of its code. It speaks of whatever program. -/
import Derived.Test.YtafieicinmcngaaM18
namespace Go.AM
open Go Go.RowKit
set_option linter.unusedVariables false
set_option linter.unusedSimpArgs false

inductive RetA (E : Env) (s : AS) (m1 : Nat → Option Ob) : ResultVar → AV → Prop where
  | tmp {t : Tmp} {y : AV} (h : WkA s.m m1 (s.t t) y) : RetA E s m1 (.tmp t) y
  | cellS {t : Tmp} {ty : TypeId} {i off : Nat} {cells : List AV} {d : TD} {x y : AV} (ht : s.t t = .loc i off) (hm : s.m i = some (.box cells)) (hd : E.Ty ty = some d) (ha : aggD d.desc = false)
      (hx : cells[off]? = some x) (h : WkA s.m m1 x y) : RetA E s m1 (.cell t ty) y
  | cellA {t : Tmp} {ty : TypeId} {i off : Nat} {cells : List AV} {d : TD} {y : AV} (ht : s.t t = .loc i off) (hm : s.m i = some (.box cells)) (hd : E.Ty ty = some d) (ha : aggD d.desc = true)
      (hl : off + d.sz ≤ cells.length) (h : WkA s.m m1 (.agg ((cells.drop off).take d.sz)) y) : RetA E s m1 (.cell t ty) y
inductive RetL (E : Env) (s : AS) (m1 : Nat → Option Ob) : List ResultVar → List AV → Prop where
  | nil : RetL E s m1 [] []
  | cons {r : ResultVar} {x : AV} {rs : List ResultVar} {xs : List AV} (h : RetA E s m1 r x) (hs : RetL E s m1 rs xs) : RetL E s m1 (r :: rs) (x :: xs)

/-- What a function that hands objects back (b) leaves. -/
def retO (E : Env) (rvs : List ResultVar) (rs : List AV) (b : List (Nat × Ob)) : Ex → AS → Prop
  | .exit _, _ => False
  | _, s => WkM s.m (mkM b) (mkM b) ∧ RetL E s (mkM b) rvs rs
def retQ (E : Env) (rvs : List ResultVar) (rs : List CV) : Ex → AS → Prop := retO E rvs (rs.map .c) []

section
variable {E : Env} {C : Ctx} {s : AS} {ρ : Nat → Value} {a : Act} {w : World}

def rvRun (tmps : Array Value) : ResultVar → Sem Value
  | .tmp t => pure (tmps.getD t undef)
  | .cell a t => do loadVar t (← asAddr (tmps.getD a undef))

theorem loadAt_eq (t : TypeId) (a : Addr) (w : World) (P : Program) : (Instr.loadAt t (.pointer (some a))).run P w = (loadVar t a).run P w := by
  simp [Instr.loadAt, Instr.sureAddr]

theorem RetA.run (h : STr C s ρ a w) (hT : ∀ b, C.T0 b → ¬ C.L0 b) {m1 : Nat → Option Ob} (hk : Wk s ⟨fun _ => .any, m1⟩) {r : ResultVar} {y : AV} (hr : RetA E s m1 r y) : ∃ v, (rvRun a.tmps r).run E.P w = .ok v w ∧ RepA w (LL C m1 ρ) ρ m1 v y := by
  have fin : ∀ v x, RepA w (LL C s.m ρ) ρ s.m v x → WkA s.m m1 x y → RepA w (LL C m1 ρ) ρ m1 v y := fun v x hv hx =>
    hx.sound (s' := ⟨fun _ => .any, m1⟩) h hk hT v hv
  cases hr with
  | tmp hx => exact ⟨_, rfl, fin _ _ (h.tmp _) hx⟩
  | cellS ht hm hd ha hx hw =>
    rename_i t ty i off cells d x
    have hv := h.tmp t; rw [ht] at hv
    obtain ⟨b, hρ, hv⟩ := hv.loc_inv _ hm
    obtain ⟨b', cs, ty', hu, hheap, hsz, hc, _⟩ := (h.obj i _ hm).box_cell
    rw [hρ] at hu; cases hu
    refine ⟨_, ?_, fin _ _ (hc off x hx).2 hw⟩
    have := run_loadS hd ha w b off _ (hc off x hx).1
    rw [loadAt_eq] at this
    simp only [rvRun, hv, Sem.run_bind, asAddr, Sem.run_pure, Result.andThen_ok, this]
  | cellA ht hm hd ha hl hw =>
    rename_i t ty i off cells d
    have hv := h.tmp t; rw [ht] at hv
    obtain ⟨b, hρ, hv⟩ := hv.loc_inv _ hm
    obtain ⟨b', cs, ty', hu, hheap, hsz, hc, _⟩ := (h.obj i _ hm).box_cell
    rw [hρ] at hu; cases hu
    have hlen : ((cs.toList.drop off).take d.sz).length = d.sz := by simp; omega
    have hcell : ∀ (j : Nat) (u : Value), ((cs.toList.drop off).take d.sz)[j]? = some u → w.cell? ⟨b, off + j, none⟩ = some u := by
      intro j u hj
      rw [List.getElem?_take] at hj
      split at hj
      · rw [List.getElem?_drop] at hj
        rw [cell_of_row w b (off + j) cs ty' (0, 0) hheap]
        simpa using hj
      · cases hj
    have hrun := run_loadAg hd ha w b off _ hlen hcell
    rw [loadAt_eq] at hrun
    refine ⟨.agg ⟨(cs.toList.drop off).take d.sz⟩, ?_, fin _ _ (.agg (by rw [hlen]; simp; omega) fun j z hz => ?_) hw⟩
    · simp only [rvRun, hv, Sem.run_bind, asAddr, Sem.run_pure, Result.andThen_ok, hrun]
    · rw [List.getElem?_take] at hz
      split at hz
      · rename_i hjs
        rw [List.getElem?_drop] at hz
        have := (hc _ z hz).2
        rw [show ((cs.toList.drop off).take d.sz).getD j undef = cs.getD (off + j) undef by simp [List.getD, List.getElem?_take, hjs, Array.getD_eq_getD_getElem?]]
        exact this
      · cases hz

theorem RetL.run (h : STr C s ρ a w) (hT : ∀ b, C.T0 b → ¬ C.L0 b) {m1 : Nat → Option Ob} (hk : Wk s ⟨fun _ => .any, m1⟩) : ∀ {rvs : List ResultVar} {rs : List AV}, RetL E s m1 rvs rs →
    ∃ vs, (rvs.mapM (rvRun a.tmps)).run E.P w = .ok vs w ∧ vs.length = rs.length ∧ ∀ (j : Nat) (y : AV), rs[j]? = some y → RepA w (LL C m1 ρ) ρ m1 (vs.getD j undef) y
  | [], _, .nil => ⟨[], by simp, rfl, fun j y hy => by simp at hy⟩
  | r :: rvs, x :: rs, .cons hr hs => by
    obtain ⟨v, h1, h2⟩ := hr.run h hT hk
    obtain ⟨vs, h3, h4, h5⟩ := RetL.run h hT hk hs
    refine ⟨v :: vs, by simp [List.mapM_cons, h1, h3], by simp [h4], fun j y hy => ?_⟩
    cases j with
    | zero => simp at hy; subst hy; exact h2
    | succ j => simpa using h5 j y (by simpa using hy)

theorem results_run {fn : Func} {rvs : List ResultVar} (hr : fn.results = ⟨rvs⟩) (h : STr C s ρ a w) (hT : ∀ b, C.T0 b → ¬ C.L0 b) {m1 : Nat → Option Ob} (hk : Wk s ⟨fun _ => .any, m1⟩) {rs : List AV} (hl : RetL E s m1 rvs rs) :
    ∃ v, (results fn a.tmps).run E.P w = .ok v w ∧ ResA w (LL C m1 ρ) ρ m1 v rs := by
  obtain ⟨vs, h1, h2, h3⟩ := hl.run h hT hk
  have he : results fn a.tmps = (do let vs ← (⟨rvs⟩ : Array ResultVar).mapM (rvRun a.tmps); pure (if h : vs.size = 1 then vs[0] else .tuple vs)) := by
    unfold results
    rw [hr]
    rfl
  have hm : ((⟨rvs⟩ : Array ResultVar).mapM (rvRun a.tmps)).run E.P w = .ok ⟨vs⟩ w := by
    rw [Array.mapM_eq_mapM_toList]
    simp [h1]
  refine ⟨if h : vs.length = 1 then vs[0] else .tuple ⟨vs⟩, ?_, ?_⟩
  · rw [he]
    simp only [Sem.run_bind, hm, Result.andThen_ok, Sem.run_pure]
    by_cases h1 : vs.length = 1
    · simp [h1]
    · simp [h1]
  · unfold ResA
    split
    · rename_i x
      have hl1 : vs.length = 1 := by simpa using h2
      rw [dif_pos hl1]
      have := h3 0 x rfl
      rwa [show vs.getD 0 undef = vs[0] by simp [List.getD, hl1]] at this
    · rename_i hne
      have hl1 : ¬ vs.length = 1 := by
        intro e
        rw [h2] at e
        obtain ⟨x, hx⟩ := List.length_eq_one_iff.1 e
        exact hne x hx
      rw [dif_neg hl1]
      exact ⟨vs, rfl, h2, h3⟩

/-- How a function begins. -/
def argA (xs : List AV) : Nat → AV := fun j => match xs[j]? with | some x => x | none => .any

/-- A FUNCTION'S CONTRACT OUT OF ITS CODE. -/
theorem Own.of {f : FuncId} {fn : Func} {c : Code} {xs rs : List AV} {oa ob : List (Nat × Ob)} {rvs : List ResultVar} (hf : E.P.funcs[f]? = some fn) (hb : fn.body = some c) (hname : (fn.name == "runtime.NumGoroutine") = false) (hr : fn.results = ⟨rvs⟩)
    (hn : xs.length ≤ fn.ntmps) (hn0 : fn.ntmps ≤ 1000000) (h6 : ∀ p ∈ oa, 1000000 ≤ p.1) (like : ∀ i o o', mkM oa i = some o → mkM ob i = some o' → o.like o') (clo : ∀ k, k ∉ oa.map (·.1) → k ∉ ob.map (·.1) → NoMen k rs ob)
    (root : ∀ k, k ∈ oa.map (·.1) → ¬ NoMen k xs oa)
    (h : ∀ C : Ctx, C.n = fn.ntmps → CQ E C c ⟨argA xs, mkM oa⟩ (retO E rvs rs ob)) : Own E.P f xs oa rs ob := by
  refine ⟨⟨fn, hf, by rw [hb]; rfl, hname⟩, like, clo, root, fun w L ρ vs hl hx hL ho => ?_⟩
  refine calls_of_wp hf hb ?_
  have hT : ∀ b, live (mkM oa) ρ b → ¬ L b := fun b ⟨i, o, hi, hb⟩ => (ho.own i o b hi hb).1
  have hC := h ⟨w, live (mkM oa) ρ, L, fn.ntmps, ρ, hn0, hT⟩ rfl
  have hst : ST ⟨w, live (mkM oa) ρ, L, fn.ntmps, ρ, hn0, hT⟩ ⟨argA xs, mkM oa⟩ { tmps := ⟨vs⟩ ++ Array.replicate (fn.ntmps - (⟨vs⟩ : Array Value).size) undef, defers := [] } w := by
    refine ⟨ρ, { keep := Keep.refl _ _, old := hL, size := by simp; omega, defers := rfl, obj := ho.obj, own := fun i o b hi hb => ⟨.inl ⟨i, o, hi, hb⟩, (ho.own i o b hi hb).2⟩, inj := ho.inj, tmp := fun j => ?_, fix := fun _ _ => rfl }⟩
    show RepA _ _ _ _ _ (match xs[j]? with | some x => x | none => .any)
    cases hj : xs[j]? with
    | none => exact .any _
    | some x =>
      have hjl : j < vs.length := by rw [hl]; exact (List.getElem?_eq_some_iff.1 hj).1
      have e : (((⟨vs⟩ : Array Value) ++ Array.replicate (fn.ntmps - (⟨vs⟩ : Array Value).size) undef).getD j undef) = vs.getD j undef := by
        simp [Array.getD_eq_getD_getElem?, Array.getElem?_append, hjl, List.getD]
      rw [e]
      exact hx j x hj
  refine Code.wp_mono ?_ (hC _ _ hst)
  rintro e a' w' ⟨x, s', he, hq, ρ', hs'⟩
  have fin : WkM s'.m (mkM ob) (mkM ob) ∧ RetL E s' (mkM ob) rvs rs → a'.defers = [] ∧ ∃ v, (results fn a'.tmps).run E.P w' = .ok v w' ∧ ∃ v' ρ', Ending.returned v = .returned v' ∧ ResA w' (fun k => L k ∨ live (mkM ob) ρ' k) ρ' (mkM ob) v' rs ∧ Objs w' L ρ' (mkM ob) ∧
      Keep (live (mkM oa) ρ) w w' ∧ (∀ i o k, mkM ob i = some o → Value.blk (ρ' i) = some k → live (mkM oa) ρ k ∨ w.heap.size ≤ k) ∧ ∀ i o o', mkM oa i = some o → mkM ob i = some o' → ρ' i = ρ i := by
    rintro ⟨hm, hl⟩
    have hk : Wk s' ⟨fun _ => .any, mkM ob⟩ := ⟨fun j => .any _, hm⟩
    obtain ⟨v, h1, h2⟩ := results_run hr hs' hT hk hl
    have hw := hs'.weak hk hT
    refine ⟨hs'.defers, v, h1, v, ρ', rfl, h2, ⟨hw.obj, fun i o b hi hb => ?_, hw.inj⟩, hs'.keep, fun i o k hi hb => (hw.own i o k hi hb).1, fun i o o' hi _ => hw.fix i (h6 _ (mkM_mem hi))⟩
    obtain ⟨h3, h4⟩ := hw.own i o b hi hb
    refine ⟨fun hLb => ?_, h4⟩
    rcases h3 with h3 | h3
    · exact hT b h3 hLb
    · have : b < w.heap.size := hL b hLb
      have h3 : w.heap.size ≤ b := h3
      omega
  cases e <;> simp [Ex.ofExit] at he <;> subst he
  · exact fin hq
  · exact hq.elim
  · exact fin hq

theorem Own.pure {f : FuncId} {args rs : List CV} (h : Own E.P f (args.map .c) [] (rs.map .c) []) : Pure E.P f args rs := by
  refine ⟨h.body, fun w L vs hl hx hL => ?_⟩
  have hlv : ∀ (ρ : Nat → Value) b, ¬ live (mkM []) ρ b := fun ρ b ⟨i, o, hi, _⟩ => by cases hi
  refine (h.call w L (fun _ => undef) vs (by simpa using hl) (fun j y hy => ?_) hL ⟨fun i o hi => (by cases hi), fun i o b hi => (by cases hi), fun i j oi oj b hi => (by cases hi)⟩).mono ?_
  · rw [List.getElem?_map] at hy
    obtain ⟨z, hz, rfl⟩ := Option.map_eq_some_iff.1 hy
    exact .c ((hx j z hz).keep (fun b hb _ hb' => hb' |>.elim hb (hlv _ b)) fun _ _ _ => rfl)
  · rintro e w' ⟨v, ρ', he, hr, _, hk, _⟩
    refine ⟨v, he, ?_, hk.mono fun b _ hb => (hlv _ b hb).elim⟩
    have hrep : ∀ {u : Value} {x : CV}, RepA w' (fun k => L k ∨ live (mkM []) ρ' k) ρ' (mkM []) u (.c x) → Rep w' L u x := fun hu =>
      hu.c_inv.keep (fun b hb _ hb' => hb (.inl hb')) fun _ _ _ => rfl
    unfold ResA at hr; unfold ResRel
    match rs, hr with
    | [x], hr => exact hrep hr
    | [], ⟨us, h1, h2, h3⟩ => exact ⟨us, h1, by simpa using h2, fun j y hy => by simp at hy⟩
    | x :: y :: r, ⟨us, h1, h2, h3⟩ => exact ⟨us, h1, by simpa using h2, fun j z hz => hrep (h3 j (.c z) (show ((x :: y :: r).map AV.c)[j]? = some (.c z) by rw [List.getElem?_map, hz]; rfl))⟩
def AS.init (args : List CV) : AS := ⟨argA (args.map .c), mkM []⟩
theorem Pure.of {f : FuncId} {fn : Func} {c : Code} {args rs : List CV} {rvs : List ResultVar} (hf : E.P.funcs[f]? = some fn) (hb : fn.body = some c) (hname : (fn.name == "runtime.NumGoroutine") = false) (hr : fn.results = ⟨rvs⟩)
    (hn : args.length ≤ fn.ntmps) (hn0 : fn.ntmps ≤ 1000000) (h : ∀ C : Ctx, C.n = fn.ntmps → CQ E C c (AS.init args) (retQ E rvs rs)) : Pure E.P f args rs := by
  refine Own.pure (Own.of hf hb hname hr (by simpa using hn) hn0 (fun p hp => by simp at hp) (fun i o o' hi => by cases hi) (fun k _ _ => ⟨fun x hx => ?_, fun p hp => by simp at hp⟩) (fun k hk => by simp at hk) h)
  obtain ⟨z, _, rfl⟩ := List.mem_map.1 hx
  exact .c _
end
end Go.AM
