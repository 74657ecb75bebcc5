/- The abstract machine, part 16: a region runs in any order that its edges let; text order tells all. It speaks of whatever program. -/
import Derived.Test.YtafieicinmcngaaM15
namespace Go.AM
open Go Go.RowKit
set_option linter.unusedVariables false
set_option linter.unusedSimpArgs false

/-- What an operation of a region looked at, turned, made. -/
structure FP where
  i : Nat
  R : List Nat
  W : List Nat
  F : List Nat

def disj (a b : List Nat) : Bool := a.all fun x => !b.contains x
theorem disj_spec {a b : List Nat} (h : disj a b = true) : ∀ x ∈ a, x ∉ b := by
  intro x hx hb
  have := List.all_eq_true.1 h x hx
  simp at this; exact this hb

/-- Two operations that may stand in either order. -/
def indep (ops : Array Oper) (x y : FP) : Bool :=
  match ops[x.i]?, ops[y.i]? with
  | some ox, some oy => ox.apart ops oy && disj x.W (y.R ++ y.W) && disj y.W x.R
  | _, _ => false

/-- The operations that must have run before each: by bits. -/
def masks (ops : List Oper) : List Nat :=
  ops.foldl (fun acc o => acc ++ [o.after.toList.foldl (fun s e => bif Region.binds .any e then s ||| 2 ^ e.on ||| acc.getD e.on 0 else s) 0]) []

/-- The text's order is one of those that the edges let. -/
def textOk (ops : Array Oper) : Bool := ops.toList.zipIdx.all fun p => p.1.after.toList.all fun e => !Region.binds .any e || decide (e.on < p.2)

def chkP (ops : Array Oper) (ms : List Nat) : List FP → Bool
  | [] => true
  | x :: r => r.all (fun y => (ms.getD y.i 0).testBit x.i || indep ops x y) && r.all (fun y => disj x.F y.F) && chkP ops ms r

inductive Pre (ops : Array Oper) : Nat → Nat → Prop where
  | edge {k j : Nat} {o : Oper} {e : Edge} (ho : ops[j]? = some o) (he : e ∈ o.after.toList) (hb : Region.binds .any e = true) (hk : e.on = k) : Pre ops k j
  | step {k l j : Nat} {o : Oper} {e : Edge} (ho : ops[j]? = some o) (he : e ∈ o.after.toList) (hb : Region.binds .any e = true) (hl : e.on = l) (h : Pre ops k l) : Pre ops k j

theorem fold_bits (acc : List Nat) (k : Nat) : ∀ (es : List Edge) (s : Nat), (es.foldl (fun s e => bif Region.binds .any e then s ||| 2 ^ e.on ||| acc.getD e.on 0 else s) s).testBit k = true →
    s.testBit k = true ∨ ∃ e ∈ es, Region.binds .any e = true ∧ (e.on = k ∨ (acc.getD e.on 0).testBit k = true)
  | [], s, h => .inl h
  | e :: es, s, h => by
    rw [List.foldl_cons] at h
    rcases fold_bits acc k es _ h with h | ⟨e', he', hb, hk⟩
    · cases hb : Region.binds .any e with
      | false => rw [hb] at h; exact .inl h
      | true =>
        rw [hb] at h
        simp only [cond_true, Nat.testBit_or, Bool.or_eq_true] at h
        rcases h with (h | h) | h
        · exact .inl h
        · rw [Nat.testBit_two_pow] at h; exact .inr ⟨e, by simp, hb, .inl (by simpa using h)⟩
        · exact .inr ⟨e, by simp, hb, .inr h⟩
    · exact .inr ⟨e', by simp [he'], hb, hk⟩

theorem masks_pre (ops : Array Oper) : ∀ (l : List Oper) (acc : List Nat), (∀ j, l[j]? = ops[acc.length + j]?) → (∀ j k, (acc.getD j 0).testBit k = true → Pre ops k j) →
    ∀ j k, ((l.foldl (fun acc o => acc ++ [o.after.toList.foldl (fun s e => bif Region.binds .any e then s ||| 2 ^ e.on ||| acc.getD e.on 0 else s) 0]) acc).getD j 0).testBit k = true → Pre ops k j
  | [], acc, _, h => h
  | o :: l, acc, hl, h => by
    rw [List.foldl_cons]
    refine masks_pre ops l _ (fun j => ?_) fun j k hk => ?_
    · have := hl (j + 1)
      simp only [List.getElem?_cons_succ, List.length_append, List.length_cons, List.length_nil] at this ⊢
      rw [this]; congr 1; omega
    · rw [List.getD_eq_getElem?_getD, List.getElem?_append] at hk
      split at hk
      · exact h j k (by rw [List.getD_eq_getElem?_getD]; exact hk)
      · rename_i hj
        by_cases e : j = acc.length
        · subst e
          simp at hk
          have ho : ops[acc.length]? = some o := by have := hl 0; simpa using this.symm
          rcases fold_bits acc k o.after.toList 0 (by simpa using hk) with h0 | ⟨e, he, hb, hk | hk⟩
          · simp at h0
          · exact .edge ho he hb hk
          · exact .step ho he hb rfl (h _ _ hk)
        · rw [List.getElem?_eq_none (by simp; omega)] at hk; simp at hk

theorem masks_spec (ops : Array Oper) (j k : Nat) (h : ((masks ops.toList).getD j 0).testBit k = true) : Pre ops k j :=
  masks_pre ops ops.toList [] (fun j => by simp) (fun j k hk => by simp at hk) j k h

section
variable {E : Env} {C : Ctx} {ops : Array Oper}

/-- Operations one after the other, as the list has them. -/
inductive Run (E : Env) (ops : Array Oper) : List FP → AS → AS → Prop where
  | nil (s : AS) : Run E ops [] s s
  | cons {x : FP} {r : List FP} {s s' : AS} {o : Oper} {v : AV} {mw : List (Nat × Option Ob)} (ho : ops[x.i]? = some o) (hs : StepO E ops s o v mw x.R x.F) (hw : mw.map (·.1) = x.W)
      (hr : Run E ops r (s.app o.dst v mw) s') : Run E ops (x :: r) s s'

theorem putT_comm (t : Nat → AV) (d d' : Option Tmp) (v v' : AV) (h : ∀ x, d = some x → d' ≠ some x) : putT (putT t d v) d' v' = putT (putT t d' v') d v := by
  cases d with
  | none => rfl
  | some d =>
    cases d' with
    | none => rfl
    | some d' =>
      have hne : d ≠ d' := fun e => h d rfl (by rw [e])
      funext j
      show (bif Nat.beq j d' then v' else bif Nat.beq j d then v else t j) = bif Nat.beq j d then v else bif Nat.beq j d' then v' else t j
      cases h1 : Nat.beq j d with
      | false => rfl
      | true =>
        cases h2 : Nat.beq j d' with
        | false => rfl
        | true => exact absurd ((Nat.eq_of_beq_eq_true h1).symm.trans (Nat.eq_of_beq_eq_true h2)) hne
theorem putT_other (t : Nat → AV) (d : Option Tmp) (v : AV) (j : Nat) (h : d ≠ some j) : putT t d v j = t j := by
  cases d with
  | none => rfl
  | some d =>
    have hne : j ≠ d := fun e => h (by rw [e])
    show (bif Nat.beq j d then v else t j) = t j
    cases hb : Nat.beq j d with
    | false => rfl
    | true => exact absurd (Nat.eq_of_beq_eq_true hb) hne
theorem updM_comm (m : Nat → Option Ob) {i j : Nat} (o p : Option Ob) (h : i ≠ j) : updM (updM m i o) j p = updM (updM m j p) i o := by
  funext k
  by_cases h1 : k = i
  · subst h1; rw [updM_ne _ _ h, updM_same, updM_same]
  · by_cases h2 : k = j
    · subst h2; rw [updM_same, updM_ne _ _ h1, updM_same]
    · rw [updM_ne _ _ h2, updM_ne _ _ h1, updM_ne _ _ h1, updM_ne _ _ h2]
theorem updMs_one : ∀ (mw : List (Nat × Option Ob)) (m : Nat → Option Ob) (i : Nat) (o : Option Ob), i ∉ mw.map (·.1) → updMs (updM m i o) mw = updM (updMs m mw) i o
  | [], m, i, o, _ => rfl
  | (j, p) :: r, m, i, o, h => by
    simp at h
    show updMs (updM (updM m i o) j p) r = updM (updMs (updM m j p) r) i o
    rw [updM_comm m o p h.1, updMs_one r _ i o (by simpa using h.2)]
theorem updMs_comm : ∀ (a b : List (Nat × Option Ob)) (m : Nat → Option Ob), (∀ x ∈ a.map (·.1), x ∉ b.map (·.1)) → updMs (updMs m a) b = updMs (updMs m b) a
  | [], b, m, _ => rfl
  | (i, o) :: r, b, m, h => by
    show updMs (updMs (updM m i o) r) b = updMs (updM (updMs m b) i o) r
    rw [updMs_comm r b _ fun x hx => h x (by simp at hx ⊢; exact .inr hx)]
    rw [updMs_one b m i o (h i (by simp))]
theorem updMs_other : ∀ (mw : List (Nat × Option Ob)) (m : Nat → Option Ob) (i : Nat), i ∉ mw.map (·.1) → updMs m mw i = m i
  | [], m, i, _ => rfl
  | (j, p) :: r, m, i, h => by
    simp at h
    show updMs (updM m j p) r i = m i
    rw [updMs_other r _ i (by simpa using h.2), updM_ne _ _ h.1]

/-- y then x, or x then y: where neither looks at the other's. -/
theorem swap {s : AS} {x y : FP} {ox oy : Oper} {vx vy : AV} {mx my : List (Nat × Option Ob)} (hox : ops[x.i]? = some ox) (hoy : ops[y.i]? = some oy) (hi : indep ops y x = true)
    (hy : StepO E ops s oy vy my y.R y.F) (hwy : my.map (·.1) = y.W) (hx : StepO E ops (s.app oy.dst vy my) ox vx mx x.R x.F) (hwx : mx.map (·.1) = x.W) :
    StepO E ops s ox vx mx x.R x.F ∧ StepO E ops (s.app ox.dst vx mx) oy vy my y.R y.F ∧ (s.app oy.dst vy my).app ox.dst vx mx = (s.app ox.dst vx mx).app oy.dst vy my := by
  unfold indep at hi
  rw [hox, hoy] at hi
  simp only [Bool.and_eq_true] at hi
  obtain ⟨⟨hap, h1⟩, h2⟩ := hi
  obtain ⟨ha, hb, hc⟩ := Oper.apart_spec hap
  have hd1 := disj_spec h1
  have hd2 := disj_spec h2
  refine ⟨hx.loc_ (fun d hd => ?_) fun i hi => ?_, hy.loc_ (fun d hd => ?_) fun i hi => ?_, ?_⟩
  · exact (putT_other _ _ _ _ fun e => ha d e hd).symm
  · refine (updMs_other my s.m i fun hm => ?_).symm
    rw [hwy] at hm; exact hd1 i hm (List.mem_append_left _ hi)
  · exact putT_other _ _ _ _ fun e => hc d e hd
  · refine updMs_other mx s.m i fun hm => ?_
    rw [hwx] at hm; exact hd2 i hm hi
  · unfold AS.app
    simp only
    rw [putT_comm s.t oy.dst ox.dst vy vx hb, updMs_comm my mx s.m fun i hi => ?_]
    rw [hwy] at hi; rw [hwx]; exact fun hh => hd1 i hi (List.mem_append_right _ hh)

/-- An operation that waits for none of those ahead of it may run first. -/
theorem front {x : FP} {q : List FP} {s' : AS} : ∀ (p : List FP) (s : AS), (∀ y ∈ p, indep ops y x = true) → Run E ops (p ++ x :: q) s s' →
    ∃ o v mw, ops[x.i]? = some o ∧ StepO E ops s o v mw x.R x.F ∧ mw.map (·.1) = x.W ∧ Run E ops (p ++ q) (s.app o.dst v mw) s'
  | [], s, _, h => by
    cases h with
    | cons ho hs hw hr => exact ⟨_, _, _, ho, hs, hw, hr⟩
  | y :: p, s, hi, h => by
    cases h with
    | cons ho hs hw hr =>
      obtain ⟨ox, vx, mx, hox, hx, hwx, hrest⟩ := front p _ (fun z hz => hi z (by simp [hz])) hr
      obtain ⟨h1, h2, h3⟩ := swap hox ho (hi y (by simp)) hs hw hx hwx
      rw [h3] at hrest
      exact ⟨ox, vx, mx, hox, h1, hwx, .cons ho h2 hw hrest⟩

theorem chkP_append {ms : List Nat} {x : FP} {q : List FP} : ∀ (p : List FP), chkP ops ms (p ++ x :: q) = true →
    (∀ y ∈ p, ((ms.getD x.i 0).testBit y.i || indep ops y x) = true) ∧ (∀ y ∈ p, disj y.F x.F = true) ∧ (∀ y ∈ q, disj x.F y.F = true) ∧ chkP ops ms (p ++ q) = true
  | [], h => by
    simp only [List.nil_append, chkP, Bool.and_eq_true, List.all_eq_true] at h ⊢
    exact ⟨fun y hy => by simp at hy, fun y hy => by simp at hy, h.1.2, h.2⟩
  | y :: p, h => by
    simp only [List.cons_append, chkP, Bool.and_eq_true, List.all_eq_true] at h
    obtain ⟨⟨h1, h2⟩, h3⟩ := h
    obtain ⟨i1, i2, i3, i4⟩ := chkP_append p h3
    refine ⟨fun z hz => ?_, fun z hz => ?_, i3, ?_⟩
    · rcases List.mem_cons.1 hz with rfl | hz
      · exact h1 x (by simp)
      · exact i1 z hz
    · rcases List.mem_cons.1 hz with rfl | hz
      · exact h2 x (by simp)
      · exact i2 z hz
    · simp only [List.cons_append, chkP, Bool.and_eq_true, List.all_eq_true]
      exact ⟨⟨fun z hz => h1 z (by simp at hz ⊢; rcases hz with h | h <;> simp [h]), fun z hz => h2 z (by simp at hz ⊢; rcases hz with h | h <;> simp [h])⟩, i4⟩

theorem disj_not {a b : List Nat} (h : disj a b = true) {d : Nat} (hd : d ∈ b) : d ∉ a := fun ha => disj_spec h d ha hd
end
end Go.AM
