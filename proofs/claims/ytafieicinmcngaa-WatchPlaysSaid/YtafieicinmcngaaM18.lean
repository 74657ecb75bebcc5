/- The abstract machine, part 18: code; loops; what may be forgotten; what a function hands back. It speaks of whatever program. -/
import Derived.Test.YtafieicinmcngaaM17
namespace Go.AM
open Go Go.RowKit
set_option linter.unusedVariables false
set_option linter.unusedSimpArgs false

inductive Ex where
  | normal
  | exit (id : Nat)
  | ret
def Ex.ofExit : Exit → Option Ex
  | .normal => some .normal
  | .exit i => some (.exit i)
  | .ret => some .ret
  | _ => none

def PostQ (C : Ctx) (Q : Ex → AS → Prop) (e : Exit) (a : Act) (w : World) : Prop := ∃ x s, Ex.ofExit e = some x ∧ Q x s ∧ ST C s a w

/-- Code, begun in a state as s says, ends as Q says. -/
def CQ (E : Env) (C : Ctx) (c : Code) (s : AS) (Q : Ex → AS → Prop) : Prop := ∀ a w, ST C s a w → c.wp E.P (PostQ C Q) a w

def thenQ (n : AS → Prop) (Q : Ex → AS → Prop) : Ex → AS → Prop
  | .normal, s => n s
  | e, s => Q e s
def blockQ (id : Nat) (Q : Ex → AS → Prop) : Ex → AS → Prop
  | .exit i, s => bif Nat.beq i id then Q .normal s else Q (.exit i) s
  | e, s => Q e s

section
variable {E : Env} {C : Ctx} {s : AS} {Q : Ex → AS → Prop}

theorem CQ.skip (h : Q .normal s) : CQ E C .skip s Q := fun a w hs => wp_skip ⟨.normal, s, rfl, h, hs⟩
theorem CQ.ret (h : Q .ret s) : CQ E C .ret s Q := fun a w hs => wp_ret ⟨.ret, s, rfl, h, hs⟩
theorem CQ.exit {id : Nat} (h : Q (.exit id) s) : CQ E C (.exit id) s Q := fun a w hs => wp_exit ⟨.exit id, s, rfl, h, hs⟩
theorem CQ.seq {x y : Code} (h : CQ E C x s (thenQ (fun s' => CQ E C y s' Q) Q)) : CQ E C (.seq x y) s Q := by
  intro a w hs
  refine wp_seq (Code.wp_mono ?_ (h a w hs))
  rintro e a' w' ⟨x', s', he, hq, hs'⟩
  cases e <;> simp [Ex.ofExit] at he <;> subst he
  · exact hq a' w' hs'
  · exact ⟨_, s', rfl, hq, hs'⟩
  · exact ⟨_, s', rfl, hq, hs'⟩
theorem CQ.block {id : Nat} {c : Code} (h : CQ E C c s (blockQ id Q)) : CQ E C (.block id c) s Q := by
  intro a w hs
  refine wp_block (Code.wp_mono ?_ (h a w hs))
  rintro e a' w' ⟨x', s', he, hq, hs'⟩
  cases e <;> simp [Ex.ofExit] at he <;> subst he
  · exact ⟨_, s', rfl, hq, hs'⟩
  · rename_i i
    show if i = id then _ else _
    simp only [blockQ] at hq
    split
    · rename_i e; subst e
      rw [Nat.beq_refl] at hq
      exact ⟨_, s', rfl, hq, hs'⟩
    · rename_i e
      have : Nat.beq i id = false := by
        cases hb : Nat.beq i id with
        | false => rfl
        | true => exact absurd (Nat.eq_of_beq_eq_true hb) e
      rw [this] at hq
      exact ⟨_, s', rfl, hq, hs'⟩
  · exact ⟨_, s', rfl, hq, hs'⟩
theorem CQ.condT {c : Operand} {x y : Code} (hc : s.ev c = .c (.v (.bool true))) (h : CQ E C x s Q) : CQ E C (.cond c x y) s Q := by
  intro a w hs
  obtain ⟨ρ, hs'⟩ := hs
  exact wp_cond_true (ev_int hs' hc) (h a w ⟨ρ, hs'⟩)
theorem CQ.condF {c : Operand} {x y : Code} (hc : s.ev c = .c (.v (.bool false))) (h : CQ E C y s Q) : CQ E C (.cond c x y) s Q := by
  intro a w hs
  obtain ⟨ρ, hs'⟩ := hs
  exact wp_cond_false (ev_int hs' hc) (h a w ⟨ρ, hs'⟩)
theorem CQ.cond {c : Operand} {x y : Code} {b : Bool} (hc : s.ev c = .c (.v (.bool b))) (ht : b = true → CQ E C x s Q) (hf : b = false → CQ E C y s Q) : CQ E C (.cond c x y) s Q := by
  cases b
  · exact .condF hc (hf rfl)
  · exact .condT hc (ht rfl)

theorem CQ.regD {id : Nat} {l : List Oper} {fps : List FP} {s' : AS} (hr : Run E ⟨l⟩ fps s s') (hi : fps.map (·.i) = List.range l.length) (hc : (textOk ⟨l⟩ && dstOk C.n ⟨l⟩ && chkP ⟨l⟩ (masks l) fps) = true)
    (hn : ∀ x ∈ fps, ∀ d ∈ x.F, s.noId d) (h : Q .normal s') : CQ E C (.region id ⟨l⟩ true) s Q := by
  intro a w hs
  simp only [Bool.and_eq_true] at hc
  refine wp_region_any E.mixed (run_any hc.1.1 (s' := s') (fun a w hs => ⟨.normal, s', rfl, h, hs⟩) hc.1.2 l.length (Array.replicate l.length false) fps s a _ ?_ (by simp) ?_ ?_ ?_ hr hc.2 hn)
  · obtain ⟨ρ, hs⟩ := hs
    exact ⟨ρ, hs.world (Keep.drew _ w)⟩
  · rw [hi]
    symm
    apply List.filter_eq_self.2
    intro j hj
    have : j < l.length := by simpa using hj
    simp [Array.getD_eq_getD_getElem?, this]
  · have := congrArg List.length hi; simp at this; omega
  · intro j o hj
    simp only [Array.getD_eq_getD_getElem?, Array.getElem?_replicate] at hj
    split at hj <;> simp at hj
theorem CQ.regT {id : Nat} {l : List Oper} {fps : List FP} {s' : AS} (hr : Run E ⟨l⟩ fps s s') (hi : fps.map (·.i) = List.range l.length) (hc : (dstOk C.n ⟨l⟩ && chkF fps) = true)
    (hn : ∀ x ∈ fps, ∀ d ∈ x.F, s.noId d) (h : Q .normal s') : CQ E C (.region id ⟨l⟩ false) s Q := by
  intro a w hs
  simp only [Bool.and_eq_true] at hc
  refine wp_region ?_
  have := run_text (ops := ⟨l⟩) (s' := s') (fun a w hs => ⟨.normal, s', rfl, h, hs⟩) hc.1 fps s a w hs hr hc.2 hn (Q := PostQ C Q)
  rw [hi] at this
  simpa using this

theorem wp_loop_rel {P : Program} {c : Code} {Q : Exit → Act → World → Prop} {a : Act} {w : World} (J : Nat → Act → World → Prop) (h₀ : ∃ n, J n a w)
    (round : ∀ n a w, J n a w → c.wp P (Exit.then (fun a' w' => ∃ n', n' < n ∧ J n' a' w') Q) a w) : (Code.loop c).wp P Q a w := by
  intro b k cs
  have key : ∀ n a w, J n a w → ∃ e a' w', Q e a' w' ∧ Arrives P (lone (b.at a (.code c :: .inLoop c :: k)) cs w) b k cs e a' w' := by
    intro n
    induction n using Nat.strongRecOn with
    | _ n ih =>
      intro a w hJ
      obtain ⟨e, a₁, w₁, hq, harr⟩ := round n a w hJ b (.inLoop c :: k) cs
      cases e with
      | normal =>
        obtain ⟨n', hlt, hJ'⟩ := hq
        obtain ⟨e₂, a₂, w₂, hq₂, harr₂⟩ := ih n' hlt a₁ w₁ hJ'
        exact ⟨e₂, a₂, w₂, hq₂, .of_steps (Steps.trans harr (.one step_inLoop)) harr₂⟩
      | exit id => exact ⟨_, a₁, w₁, hq, .pass (x := .inLoop c) rfl (fun _ _ => .inl (by simp)) harr⟩
      | goto l => exact ⟨_, a₁, w₁, hq, .pass (x := .inLoop c) rfl (fun _ _ => .inl (by simp)) harr⟩
      | ret => exact ⟨_, a₁, w₁, hq, .pass (x := .inLoop c) rfl (fun _ _ => .inl (by simp)) harr⟩
      | panic ch => exact ⟨_, a₁, w₁, hq, .pass (x := .inLoop c) rfl (fun _ _ => .inl (by simp)) harr⟩
      | outgrown => exact ⟨_, a₁, w₁, hq, .pass (x := .inLoop c) rfl (fun _ _ => .inl (by simp)) harr⟩
  obtain ⟨n, hJ⟩ := h₀
  obtain ⟨e, a', w', hq, harr⟩ := key n a w hJ
  exact ⟨e, a', w', hq, .of_steps (.one step_loop) harr⟩

/-! ### forgetting -/
inductive WkA (m m' : Nat → Option Ob) : AV → AV → Prop where
  | any (x : AV) : WkA m m' x .any
  | refl (x : AV) : WkA m m' x x
  | le {x y : CV} (h : LeC x y) : WkA m m' (.c x) (.c y)
  | agg {xs ys : List AV} (hn : xs.length = ys.length) (h : ∀ (j : Nat) (x y : AV), xs[j]? = some x → ys[j]? = some y → WkA m m' x y) : WkA m m' (.agg xs) (.agg ys)
  | aggC {xs : List AV} {ys : List CV} (hn : xs.length = ys.length) (h : ∀ (j : Nat) (x : AV) (y : CV), xs[j]? = some x → ys[j]? = some y → WkA m m' x (.c y)) : WkA m m' (.agg xs) (.c (.agg ys))
  | ms {i n sz e : Nat} {xs : List CV} (hm : m i = some (.arr sz e xs)) (hn : xs.length = n) (hm' : m' i = none) : WkA m m' (.ms i n) (.c (.sl sz xs))

def WkO (m m' : Nat → Option Ob) : Ob → Ob → Prop
  | .box xs, .box ys => xs.length = ys.length ∧ ∀ (j : Nat) (x y : AV), xs[j]? = some x → ys[j]? = some y → WkA m m' x y
  | .arr sz e xs, .arr sz' e' ys => sz = sz' ∧ e = e' ∧ xs = ys
  | _, _ => False

structure Wk (s s' : AS) : Prop where
  t : ∀ j, WkA s.m s'.m (s.t j) (s'.t j)
  m : ∀ i o', s'.m i = some o' → ∃ o, s.m i = some o ∧ WkO s.m s'.m o o'

variable {ρ : Nat → Value} {a : Act} {w : World}

theorem Wk.turns {s' : AS} (h : Wk s s') (ρ : Nat → Value) (i : Nat) : Turns s.m s'.m ρ ρ i := by
  cases hm : s'.m i with
  | none => exact .inl hm
  | some o' =>
    obtain ⟨o, ho, hw⟩ := h.m i o' hm
    refine .inr (.inr ⟨rfl, ?_⟩)
    cases o <;> cases o' <;> simp only [WkO] at hw
    · exact .inr (.inl ⟨_, _, ho, hm⟩)
    · obtain ⟨rfl, rfl, rfl⟩ := hw
      exact .inl (by rw [hm, ho])

theorem WkA.sound (h : STr C s ρ a w) {s' : AS} (hk : Wk s s') (hT : ∀ b, C.T0 b → ¬ C.L0 b) {x y : AV} (hxy : WkA s.m s'.m x y) :
    ∀ v, RepA w (LL C s.m ρ) ρ s.m v x → RepA w (LL C s'.m ρ) ρ s'.m v y := by
  have hLL : ∀ b, LL C s'.m ρ b → LL C s.m ρ b := by
    rintro b (hb | ⟨i, o, hi, hb⟩)
    · exact .inl hb
    · obtain ⟨o', ho', _⟩ := hk.m i o hi
      exact .inr ⟨i, o', ho', hb⟩
  have hkeep : ∀ v x, RepA w (LL C s.m ρ) ρ s.m v x → RepA w (LL C s'.m ρ) ρ s'.m v x := fun v x hv =>
    hv.keep (fun b hb _ hb' => hb (hLL b hb')) (fun _ _ _ => rfl) fun i => .inr (hk.turns ρ i)
  induction hxy with
  | any x => exact fun v _ => .any v
  | refl x => exact fun v hv => hkeep v x hv
  | le h => intro v hv; exact .c (h.rep v (hkeep v _ hv).c_inv)
  | agg hn h ih =>
    intro v hv
    cases hv with
    | agg hn' hx =>
      refine .agg (hn'.trans hn) fun j y hy => ?_
      rename_i xs ys vs
      have hj : j < xs.length := by rw [hn]; exact (List.getElem?_eq_some_iff.1 hy).1
      exact ih j _ y (List.getElem?_eq_getElem hj) hy _ (hx j _ (List.getElem?_eq_getElem hj))
  | aggC hn h ih =>
    intro v hv
    cases hv with
    | agg hn' hx =>
      refine .c (.agg (hn'.trans hn) fun j y hy => ?_)
      rename_i xs ys vs
      have hj : j < xs.length := by rw [hn]; exact (List.getElem?_eq_some_iff.1 hy).1
      exact (ih j _ y (List.getElem?_eq_getElem hj) hy _ (hx j _ (List.getElem?_eq_getElem hj))).c_inv
  | ms hm hn hm' =>
    rename_i i n sz e xs
    intro v hv
    have hv2 := (hv.ms_inv _ _ _ hm).2 hn
    obtain ⟨h0, vs, hown, hx⟩ := h.obj i _ hm
    refine .c ?_
    rw [hv2]
    rcases hown.2 with ⟨e1, e2⟩ | ⟨g, cap, cur, e1, _, hgg, hnc, hcm, hcs, htake⟩
    · have hxs : xs = [] := List.eq_nil_of_length_eq_zero e2
      subst hxs
      rw [e1]
      exact Rep.sl_mk rfl (Nat.le_refl _) (by simp [maxLen]) h0 (fun h => absurd h (by simp)) (fun i x hx => by simp at hx)
    · rw [e1]
      have hnl : ¬ LL C s'.m ρ g := by
        have hblk : Value.blk (ρ i) = some g := by rw [e1]; rfl
        have hown' := h.own i _ g hm hblk
        rintro (hb | ⟨k, ok, hk', hb⟩)
        · rcases hown'.1 with ht | ht
          · exact hT g ht hb
          · have := h.old g hb; omega
        · obtain ⟨o', ho', _⟩ := hk.m k ok hk'
          have := h.inj k i _ _ g ho' hm hb hblk
          subst this; rw [hm'] at hk'; cases hk'
      refine Rep.sl_mk rfl hnc hcm h0 (fun hp => ⟨g, 0, rfl, hnl, fun k x hkx j y hjy => ?_⟩) fun k x hkx => (hx k x hkx).1
      obtain ⟨_, b, cap', hu, hc⟩ := (h.obj i _ hm).arr_cell hkx
      rw [e1] at hu; cases hu
      obtain ⟨u, hu, hr⟩ := hc j y hjy
      exact ⟨u, by simpa using hu, hr.keep (fun b hb _ hb' => hb (hLL b hb')) fun _ _ _ => rfl⟩

theorem STr.weak (h : STr C s ρ a w) {s' : AS} (hk : Wk s s') (hT : ∀ b, C.T0 b → ¬ C.L0 b) : STr C s' ρ a w := by
  refine ⟨h.keep, h.old, h.size, h.defers, fun i o' hi => ?_, fun i o b hi hb => ?_, fun i j oi oj b hi hj hbi hbj => ?_, fun j => (hk.t j).sound h hk hT _ (h.tmp j), h.fix⟩
  · obtain ⟨o, ho, hw⟩ := hk.m i o' hi
    have hob := h.obj i o ho
    cases o <;> cases o' <;> simp only [WkO] at hw
    · obtain ⟨b, cs, ty, h1, h2, h3, h4⟩ := hob
      refine ⟨b, cs, ty, h1, h2, by omega, fun j y hy => ?_⟩
      rename_i xs ys
      have hj : j < xs.length := by rw [hw.1]; exact (List.getElem?_eq_some_iff.1 hy).1
      exact (hw.2 j _ y (List.getElem?_eq_getElem hj) hy).sound h hk hT _ (h4 j _ (List.getElem?_eq_getElem hj))
    · obtain ⟨rfl, rfl, rfl⟩ := hw
      refine hob.keep (fun b hb _ hb' => hb ?_) (fun _ _ _ => rfl) (fun _ _ => rfl) fun k => .inr (hk.turns ρ k)
      rcases hb' with hb' | ⟨k, ok, hk', hb'⟩
      · exact .inl hb'
      · obtain ⟨o', ho', _⟩ := hk.m k ok hk'
        exact .inr ⟨k, o', ho', hb'⟩
  · obtain ⟨o', ho', _⟩ := hk.m i o hi
    exact h.own i o' b ho' hb
  · obtain ⟨o1, h1, _⟩ := hk.m i oi hi
    obtain ⟨o2, h2, _⟩ := hk.m j oj hj
    exact h.inj i j o1 o2 b h1 h2 hbi hbj

def WkM (m m1 m' : Nat → Option Ob) : Prop := ∀ i o', m' i = some o' → ∃ o, m i = some o ∧ WkO m m1 o o'
theorem CQ.weak {c : Code} {s' : AS} (hk : Wk s s') (hT : ∀ b, C.T0 b → ¬ C.L0 b) (h : CQ E C c s' Q) : CQ E C c s Q := fun a w ⟨ρ, hs⟩ => h a w ⟨ρ, hs.weak hk hT⟩

/-- A loop: at each round's head the state is S x, of some x that is right; each round lowers a measure. -/
theorem CQ.loop {ι : Type} {c : Code} (hT : ∀ b, C.T0 b → ¬ C.L0 b) (S : ι → AS) (Inv : ι → Prop) (μ : ι → Nat) (x0 : ι) (h0 : Inv x0) (hs : Wk s (S x0))
    (round : ∀ x, Inv x → CQ E C c (S x) (thenQ (fun s' => ∃ x', Inv x' ∧ μ x' < μ x ∧ Wk s' (S x')) Q)) : CQ E C (.loop c) s Q := by
  intro a w ⟨ρ, hst⟩
  refine wp_loop_rel (fun n a w => ∃ x, Inv x ∧ μ x = n ∧ ST C (S x) a w) ⟨μ x0, x0, h0, rfl, ρ, hst.weak hs hT⟩ ?_
  rintro n a w ⟨x, hx, rfl, hsx⟩
  refine Code.wp_mono ?_ (round x hx a w hsx)
  rintro e a' w' ⟨q, s', he, hq, hs'⟩
  cases e <;> simp [Ex.ofExit] at he <;> subst he
  · obtain ⟨x', hi, hlt, hk⟩ := hq
    obtain ⟨ρ', hs'⟩ := hs'
    exact ⟨μ x', hlt, x', hi, rfl, ρ', hs'.weak hk hT⟩
  · exact ⟨_, s', rfl, hq, hs'⟩
  · exact ⟨_, s', rfl, hq, hs'⟩
end
end Go.AM
