/- The abstract machine, part 21: contracts over objects, their names turned. It speaks of whatever program. -/
import Derived.Test.YtafieicinmcngaaM19
namespace Go.AM
open Go Go.RowKit
set_option linter.unusedVariables false
set_option linter.unusedSimpArgs false

inductive Ren (r : Nat → Nat) : AV → AV → Prop where
  | any : Ren r .any .any
  | c (x : CV) : Ren r (.c x) (.c x)
  | loc {i j off : Nat} (h : r i = j) : Ren r (.loc i off) (.loc j off)
  | ms {i j n : Nat} (h : r i = j) : Ren r (.ms i n) (.ms j n)
  | agg {xs ys : List AV} (hn : xs.length = ys.length) (h : ∀ (j : Nat) (x y : AV), xs[j]? = some x → ys[j]? = some y → Ren r x y) : Ren r (.agg xs) (.agg ys)
def RenL (r : Nat → Nat) (xs ys : List AV) : Prop := xs.length = ys.length ∧ ∀ (j : Nat) (x y : AV), xs[j]? = some x → ys[j]? = some y → Ren r x y
theorem RenL.nil {r : Nat → Nat} : RenL r [] [] := ⟨rfl, fun j x y hx => by simp at hx⟩
theorem RenL.cons {r : Nat → Nat} {x y : AV} {xs ys : List AV} (h : Ren r x y) (hs : RenL r xs ys) : RenL r (x :: xs) (y :: ys) := by
  refine ⟨by simp [hs.1], fun j a b ha hb => ?_⟩
  cases j with
  | zero => simp at ha hb; subst ha; subst hb; exact h
  | succ j => simp at ha hb; exact hs.2 j a b ha hb
theorem RenL.all {r : Nat → Nat} : ∀ (cs : List CV), RenL r (cs.map .c) (cs.map .c)
  | [] => .nil
  | c :: cs => .cons (.c c) (RenL.all cs)
theorem Ren.aggs {r : Nat → Nat} {xs ys : List AV} (h : RenL r xs ys) : Ren r (.agg xs) (.agg ys) := .agg h.1 h.2
inductive RenO (r : Nat → Nat) : Ob → Ob → Prop where
  | box {xs ys : List AV} (h : RenL r xs ys) : RenO r (.box xs) (.box ys)
  | arr (sz e : Nat) (xs : List CV) : RenO r (.arr sz e xs) (.arr sz e xs)
inductive RenM (r : Nat → Nat) : List (Nat × Ob) → List (Nat × Ob) → Prop where
  | nil : RenM r [] []
  | cons {i j : Nat} {o o' : Ob} {l l' : List (Nat × Ob)} (hi : r i = j) (ho : RenO r o o') (h : RenM r l l') : RenM r ((i, o) :: l) ((j, o') :: l')

section
variable {r : Nat → Nat} (hr : ∀ i j, r i = r j → i = j)
include hr
theorem RenM.to {l l' : List (Nat × Ob)} (h : RenM r l l') : ∀ {i o}, mkM l i = some o → ∃ o', mkM l' (r i) = some o' ∧ RenO r o o' := by
  induction h with
  | nil => intro i o hi; cases hi
  | cons hi ho h ih =>
    rename_i a b o o' l l'
    intro i q hq
    by_cases e : i = a
    · subst e; simp only [mkM, updM_same] at hq; cases hq
      exact ⟨o', by subst hi; simp only [mkM, updM_same], ho⟩
    · simp only [mkM, updM_ne _ _ e] at hq
      obtain ⟨q', h1, h2⟩ := ih hq
      exact ⟨q', by subst hi; simp only [mkM, updM_ne _ _ (fun e' => e (hr _ _ e')), h1], h2⟩
omit hr in
theorem RenM.from {l l' : List (Nat × Ob)} (h : RenM r l l') : ∀ {k o'}, mkM l' k = some o' → ∃ i o, r i = k ∧ mkM l i = some o ∧ RenO r o o' := by
  induction h with
  | nil => intro i o hi; cases hi
  | cons hi ho h ih =>
    rename_i a b o o' l l'
    intro k q hq
    by_cases e : k = b
    · subst e; simp only [mkM, updM_same] at hq; cases hq
      exact ⟨a, o, hi, by simp only [mkM, updM_same], ho⟩
    · simp only [mkM, updM_ne _ _ e] at hq
      obtain ⟨i, q', h1, h2, h3⟩ := ih hq
      exact ⟨i, q', h1, by simp only [mkM, updM_ne _ _ (show i ≠ a from fun e' => e (by rw [← h1, e', hi])), h2], h3⟩
theorem RenM.mem {l l' : List (Nat × Ob)} (h : RenM r l l') {k : Nat} : k ∈ l'.map (·.1) ↔ ∃ i, r i = k ∧ i ∈ l.map (·.1) := by
  constructor
  · intro hk
    obtain ⟨o, ho⟩ := mkM_some hk
    obtain ⟨i, q, h1, h2, _⟩ := h.from ho
    exact ⟨i, h1, List.mem_map.2 ⟨_, mkM_mem h2, rfl⟩⟩
  · rintro ⟨i, rfl, hi⟩
    obtain ⟨o, ho⟩ := mkM_some hi
    obtain ⟨o', h1, _⟩ := h.to hr ho
    exact List.mem_map.2 ⟨_, mkM_mem h1, rfl⟩
omit hr in
theorem RenM.mem2 {l l' : List (Nat × Ob)} (h : RenM r l l') : (∀ p' ∈ l', ∃ p ∈ l, RenO r p.2 p'.2) ∧ ∀ p ∈ l, ∃ p' ∈ l', RenO r p.2 p'.2 := by
  induction h with
  | nil => exact ⟨fun p hp => by simp at hp, fun p hp => by simp at hp⟩
  | cons hi ho h ih =>
    refine ⟨fun p hp => ?_, fun p hp => ?_⟩
    · rcases List.mem_cons.1 hp with rfl | hp
      · exact ⟨_, List.mem_cons_self, ho⟩
      · obtain ⟨q, hq, hh⟩ := ih.1 p hp; exact ⟨q, List.mem_cons_of_mem _ hq, hh⟩
    · rcases List.mem_cons.1 hp with rfl | hp
      · exact ⟨_, List.mem_cons_self, ho⟩
      · obtain ⟨q, hq, hh⟩ := ih.2 p hp; exact ⟨q, List.mem_cons_of_mem _ hq, hh⟩
omit hr in
theorem Ren.noId {x y : AV} (h : Ren r x y) : ∀ k, (∀ i, r i = k → NoId i x) → NoId k y := by
  induction h with
  | any => exact fun _ _ => .any
  | c x => exact fun _ _ => .c _
  | loc h =>
    intro k hk
    refine .loc fun e => ?_
    cases hk _ (h.trans e) with | loc hn => exact hn rfl
  | ms h =>
    intro k hk
    refine .ms fun e => ?_
    cases hk _ (h.trans e) with | ms hn => exact hn rfl
  | agg hn h ih =>
    intro k hk
    refine .agg fun j y hy => ?_
    rename_i xs ys
    have hj : j < xs.length := by rw [hn]; exact (List.getElem?_eq_some_iff.1 hy).1
    exact ih j _ y (List.getElem?_eq_getElem hj) hy k fun i hi => by
      cases hk i hi with | agg hx => exact hx j _ (List.getElem?_eq_getElem hj)
omit hr in
theorem Ren.noId_back {x y : AV} (h : Ren r x y) : ∀ i, NoId (r i) y → NoId i x := by
  induction h with
  | any => exact fun _ _ => .any
  | c x => exact fun _ _ => .c _
  | loc h => intro i hi; refine .loc fun e => ?_; cases hi with | loc hn => exact hn (by rw [← h, e])
  | ms h => intro i hi; refine .ms fun e => ?_; cases hi with | ms hn => exact hn (by rw [← h, e])
  | agg hn h ih =>
    intro i hi
    refine .agg fun j x hx => ?_
    rename_i xs ys
    have hj : j < ys.length := by rw [← hn]; exact (List.getElem?_eq_some_iff.1 hx).1
    exact ih j x _ hx (List.getElem?_eq_getElem hj) i (by cases hi with | agg hy => exact hy j _ (List.getElem?_eq_getElem hj))
omit hr in
theorem RenL.noId {xs ys : List AV} (h : RenL r xs ys) (k : Nat) (hk : ∀ i, r i = k → ∀ x ∈ xs, NoId i x) : ∀ y ∈ ys, NoId k y := by
  intro y hy
  obtain ⟨j, hj⟩ := List.mem_iff_getElem?.1 hy
  have hl : j < xs.length := by rw [h.1]; exact (List.getElem?_eq_some_iff.1 hj).1
  exact (h.2 j _ y (List.getElem?_eq_getElem hl) hj).noId k fun i hi => hk i hi _ (List.getElem_mem hl)
omit hr in
theorem RenL.noId_back {xs ys : List AV} (h : RenL r xs ys) (i : Nat) (hk : ∀ y ∈ ys, NoId (r i) y) : ∀ x ∈ xs, NoId i x := by
  intro x hx
  obtain ⟨j, hj⟩ := List.mem_iff_getElem?.1 hx
  have hl : j < ys.length := by rw [← h.1]; exact (List.getElem?_eq_some_iff.1 hj).1
  exact (h.2 j x _ hj (List.getElem?_eq_getElem hl)).noId_back i (hk _ (List.getElem_mem hl))
omit hr in
theorem RenO.noId {o o' : Ob} (h : RenO r o o') (k : Nat) (hk : ∀ i, r i = k → o.noId i) : o'.noId k := by
  cases h with
  | arr sz e xs => trivial
  | box h =>
    intro j y hy
    exact h.noId k (fun i hi x hx => by obtain ⟨q, hq⟩ := List.mem_iff_getElem?.1 hx; exact hk i hi q x hq) y (List.mem_of_getElem? hy)
omit hr in
theorem RenO.noId_back {o o' : Ob} (h : RenO r o o') (i : Nat) (hk : o'.noId (r i)) : o.noId i := by
  cases h with
  | arr sz e xs => trivial
  | box h =>
    intro j y hy
    exact h.noId_back i (fun z hz => by obtain ⟨q, hq⟩ := List.mem_iff_getElem?.1 hz; exact hk q z hq) y (List.mem_of_getElem? hy)

theorem Ren.rep_back {w : World} {L : Nat → Prop} {ρ ρb : Nat → Value} (hρ : ∀ i, ρb i = ρ (r i)) {l l' : List (Nat × Ob)} (hl : RenM r l l') {x y : AV} (h : Ren r x y) : ∀ v, RepA w L ρ (mkM l') v y → RepA w L ρb (mkM l) v x := by
  induction h with
  | any => exact fun v _ => .any v
  | c x => exact fun v hv => .c hv.c_inv
  | loc h =>
    subst h
    intro v hv
    refine .loc fun cells hc => ?_
    obtain ⟨o', h1, h2⟩ := hl.to hr hc
    cases h2 with | box h2 => rw [hρ]; exact hv.loc_inv _ h1
  | ms h =>
    subst h
    intro v hv
    refine .ms fun sz e xs hc => ?_
    obtain ⟨o', h1, h2⟩ := hl.to hr hc
    cases h2 with | arr => rw [hρ]; exact hv.ms_inv _ _ _ h1
  | agg hn h ih =>
    intro v hv
    cases hv with
    | agg hn' hx =>
      refine .agg (hn'.trans hn.symm) fun j x hx' => ?_
      rename_i xs ys vs
      have hj : j < ys.length := by rw [← hn]; exact (List.getElem?_eq_some_iff.1 hx').1
      exact ih j x _ hx' (List.getElem?_eq_getElem hj) _ (hx j _ (List.getElem?_eq_getElem hj))
theorem Ren.rep {w : World} {L : Nat → Prop} {ρ ρb : Nat → Value} (hρ : ∀ i, ρb i = ρ (r i)) {l l' : List (Nat × Ob)} (hl : RenM r l l') {x y : AV} (h : Ren r x y) : ∀ v, RepA w L ρb (mkM l) v x → RepA w L ρ (mkM l') v y := by
  induction h with
  | any => exact fun v _ => .any v
  | c x => exact fun v hv => .c hv.c_inv
  | loc h =>
    rename_i i j off
    subst h
    intro v hv
    refine .loc fun cells hc => ?_
    obtain ⟨i', o, h1, h2, h3⟩ := hl.from hc
    have := hr _ _ h1; subst this
    cases h3 with | box h3 => rw [← hρ]; exact hv.loc_inv _ h2
  | ms h =>
    rename_i i j n
    subst h
    intro v hv
    refine .ms fun sz e xs hc => ?_
    obtain ⟨i', o, h1, h2, h3⟩ := hl.from hc
    have := hr _ _ h1; subst this
    cases h3 with | arr => rw [← hρ]; exact hv.ms_inv _ _ _ h2
  | agg hn h ih =>
    intro v hv
    cases hv with
    | agg hn' hx =>
      refine .agg (hn'.trans hn) fun j y hy => ?_
      rename_i xs ys vs
      have hj : j < xs.length := by rw [hn]; exact (List.getElem?_eq_some_iff.1 hy).1
      exact ih j _ y (List.getElem?_eq_getElem hj) hy _ (hx j _ (List.getElem?_eq_getElem hj))
theorem ren_live {ρ ρb : Nat → Value} (hρ : ∀ i, ρb i = ρ (r i)) {l l' : List (Nat × Ob)} (hl : RenM r l l') (b : Nat) : live (mkM l') ρ b ↔ live (mkM l) ρb b := by
  constructor
  · rintro ⟨k, o, hk, hb⟩
    obtain ⟨i, q, rfl, h2, _⟩ := hl.from hk
    exact ⟨i, q, h2, by rw [hρ]; exact hb⟩
  · rintro ⟨i, o, hi, hb⟩
    obtain ⟨o', h1, _⟩ := hl.to hr hi
    exact ⟨r i, o', h1, by rw [← hρ]; exact hb⟩
theorem RenO.obRel {w : World} {L L' : Nat → Prop} (hL : ∀ b, L b ↔ L' b) {ρ ρb : Nat → Value} (hρ : ∀ i, ρb i = ρ (r i)) {l l' : List (Nat × Ob)} (hl : RenM r l l') {o o' : Ob} (h : RenO r o o') (u : Value) :
    ObRel w L ρ (mkM l') u o' ↔ ObRel w L' ρb (mkM l) u o := by
  have e : L = L' := funext fun b => propext (hL b)
  subst e
  cases h with
  | arr sz e xs => exact Iff.rfl
  | box h =>
    rename_i xs ys
    constructor
    · rintro ⟨b, cs, ty, rfl, hh, hs, hc⟩
      refine ⟨b, cs, ty, rfl, hh, hs.trans h.1.symm, fun j x hx => ?_⟩
      have hj : j < ys.length := by rw [← h.1]; exact (List.getElem?_eq_some_iff.1 hx).1
      exact (h.2 j x _ hx (List.getElem?_eq_getElem hj)).rep_back hr hρ hl _ (hc j _ (List.getElem?_eq_getElem hj))
    · rintro ⟨b, cs, ty, rfl, hh, hs, hc⟩
      refine ⟨b, cs, ty, rfl, hh, hs.trans h.1, fun j y hy => ?_⟩
      have hj : j < xs.length := by rw [h.1]; exact (List.getElem?_eq_some_iff.1 hy).1
      exact (h.2 j _ y (List.getElem?_eq_getElem hj) hy).rep hr hρ hl _ (hc j _ (List.getElem?_eq_getElem hj))

/-- A CONTRACT UNDER OTHER NAMES. -/
theorem Own.ren {P : Program} {f : FuncId} {xs xs' rs rs' : List AV} {oa oa' ob ob' : List (Nat × Ob)} (h : Own P f xs oa rs ob) (hx : RenL r xs xs') (ha : RenM r oa oa') (hs : RenL r rs rs') (hb : RenM r ob ob') : Own P f xs' oa' rs' ob' := by
  have hlk : ∀ {o1 o1' o2 o2'}, RenO r o1 o1' → RenO r o2 o2' → o1.like o2 → o1'.like o2' := by
    intro o1 o1' o2 o2' h1 h2 hl
    cases h1 <;> cases h2 <;> simp only [Ob.like] at hl ⊢
    exact hl
  refine ⟨h.body, fun k o o' hk hk' => ?_, fun k hk1 hk2 => ?_, fun k hk hn => ?_, fun w L ρ vs hl hvx hL hob => ?_⟩
  · obtain ⟨i, q, rfl, h2, h3⟩ := ha.from hk
    obtain ⟨i', q', h1', h2', h3'⟩ := hb.from hk'
    have := hr _ _ h1'; subst this
    exact hlk h3 h3' (h.like i' q q' h2 h2')
  · have key : ∀ i, r i = k → NoMen i rs ob := fun i hi => h.clo i (fun hm => hk1 ((ha.mem hr).2 ⟨i, hi, hm⟩)) fun hm => hk2 ((hb.mem hr).2 ⟨i, hi, hm⟩)
    refine ⟨hs.noId k fun i hi => (key i hi).1, fun p' hp' => ?_⟩
    obtain ⟨p, hp, ho⟩ := hb.mem2.1 p' hp'
    exact ho.noId k fun i hi => (key i hi).2 p hp
  · obtain ⟨i, rfl, hi⟩ := (ha.mem hr).1 hk
    refine h.root i hi ⟨hx.noId_back i hn.1, fun p hp => ?_⟩
    obtain ⟨p', hp', ho⟩ := ha.mem2.2 p hp
    exact ho.noId_back i (hn.2 p' hp')
  · let ρb : Nat → Value := fun i => ρ (r i)
    have hρ : ∀ i, ρb i = ρ (r i) := fun _ => rfl
    have hLL : ∀ b, (L b ∨ live (mkM oa') ρ b) ↔ (L b ∨ live (mkM oa) ρb b) := fun b => by rw [ren_live hr hρ ha]
    have hLe : (fun b => L b ∨ live (mkM oa') ρ b) = (fun b => L b ∨ live (mkM oa) ρb b) := funext fun b => propext (hLL b)
    have hlive : live (mkM oa') ρ = live (mkM oa) ρb := funext fun b => propext (ren_live hr hρ ha b)
    refine (h.call w L ρb vs (hl.trans hx.1.symm) (fun j x hxj => ?_) hL ⟨fun i o hi => ?_, fun i o b hi hb => ?_, fun i j oi oj b hi hj hbi hbj => ?_⟩).mono ?_
    · have hj : j < xs'.length := by rw [← hx.1]; exact (List.getElem?_eq_some_iff.1 hxj).1
      have := hvx j _ (List.getElem?_eq_getElem hj)
      rw [hLe] at this
      exact (hx.2 j x _ hxj (List.getElem?_eq_getElem hj)).rep_back hr hρ ha _ this
    · obtain ⟨o', h1, h2⟩ := ha.to hr hi
      exact (h2.obRel hr hLL hρ ha _).1 (hob.obj _ o' h1)
    · obtain ⟨o', h1, _⟩ := ha.to hr hi
      exact hob.own _ o' b h1 hb
    · obtain ⟨oi', h1, _⟩ := ha.to hr hi
      obtain ⟨oj', h2, _⟩ := ha.to hr hj
      exact hr _ _ (hob.inj _ _ _ _ b h1 h2 hbi hbj)
    · rintro e w' ⟨v, ρ', he, hres, hobj, hk, hpl, hfx⟩
      let ρ'' : Nat → Value := fun k => ρ' (Classical.epsilon fun i => r i = k)
      have hρ' : ∀ i, ρ' i = ρ'' (r i) := by
        intro i
        have hex : ∃ j, r j = r i := ⟨i, rfl⟩
        show ρ' i = ρ' (Classical.epsilon fun j => r j = r i)
        rw [hr _ _ (Classical.epsilon_spec hex)]
      have hLe' : (fun b => L b ∨ live (mkM ob') ρ'' b) = (fun b => L b ∨ live (mkM ob) ρ' b) := funext fun b => propext (by rw [ren_live hr hρ' hb])
      have hLL' : ∀ b, (L b ∨ live (mkM ob') ρ'' b) ↔ (L b ∨ live (mkM ob) ρ' b) := fun b => by rw [ren_live hr hρ' hb]
      refine ⟨v, ρ'', he, ?_, ⟨fun k o' hk' => ?_, fun k o' b hk' hbk => ?_, fun k l ok ol b hk' hl' hbk hbl => ?_⟩, hlive ▸ hk, fun k o' b hk' hbk => ?_, fun k o o' hk1 hk2 => ?_⟩
      · rw [hLe']
        have hlen := hs.1
        unfold ResA at hres ⊢
        have one : ∀ (j : Nat) (x y : AV), rs[j]? = some x → rs'[j]? = some y → ∀ u, RepA w' (fun k => L k ∨ live (mkM ob) ρ' k) ρ' (mkM ob) u x → RepA w' (fun k => L k ∨ live (mkM ob) ρ' k) ρ'' (mkM ob') u y :=
          fun j x y hx' hy u hu => (hs.2 j x y hx' hy).rep hr hρ' hb u hu
        have tup : ∀ us : List Value, v = .tuple ⟨us⟩ → us.length = rs.length → (∀ (j : Nat) (y : AV), rs[j]? = some y → RepA w' (fun k => L k ∨ live (mkM ob) ρ' k) ρ' (mkM ob) (us.getD j undef) y) →
            ∃ us : List Value, v = .tuple ⟨us⟩ ∧ us.length = rs'.length ∧ ∀ (j : Nat) (y : AV), rs'[j]? = some y → RepA w' (fun k => L k ∨ live (mkM ob) ρ' k) ρ'' (mkM ob') (us.getD j undef) y := by
          intro us h1 h2 h3
          refine ⟨us, h1, h2.trans hlen, fun j y hy => ?_⟩
          have hj : j < rs.length := by rw [hlen]; exact (List.getElem?_eq_some_iff.1 hy).1
          exact one j _ y (List.getElem?_eq_getElem hj) hy _ (h3 j _ (List.getElem?_eq_getElem hj))
        match rs, rs', hlen, hres, one, tup with
        | [x], [y], _, hres, one, _ => exact one 0 x y rfl rfl v hres
        | [], [], _, ⟨us, h1, h2, h3⟩, _, tup => exact tup us h1 h2 h3
        | x :: x2 :: rr, y :: y2 :: rr', _, ⟨us, h1, h2, h3⟩, _, tup => exact tup us h1 h2 h3
      · obtain ⟨i, o, rfl, h2, h3⟩ := hb.from hk'
        rw [← hρ']
        exact (h3.obRel hr hLL' hρ' hb _).2 (hobj.obj i o h2)
      · obtain ⟨i, o, rfl, h2, h3⟩ := hb.from hk'
        rw [← hρ'] at hbk
        exact hobj.own i o b h2 hbk
      · obtain ⟨i, o, rfl, h2, _⟩ := hb.from hk'
        obtain ⟨j, o2, rfl, h2', _⟩ := hb.from hl'
        rw [← hρ'] at hbk hbl
        rw [hobj.inj i j o o2 b h2 h2' hbk hbl]
      · obtain ⟨i, o, rfl, h2, h3⟩ := hb.from hk'
        rw [← hρ'] at hbk
        rw [hlive]
        exact hpl i o b h2 hbk
      · obtain ⟨i, q, rfl, h2, _⟩ := ha.from hk1
        obtain ⟨j, q', h1', h2', _⟩ := hb.from hk2
        have := hr _ _ h1'; subst this
        rw [← hρ']
        exact hfx j q q' h2 h2'
end

/-- Names for names. -/
def rn (l : List (Nat × Nat)) (k : Nat) : Nat :=
  match l with
  | [] => k
  | (a, b) :: r => bif Nat.beq k a then b else rn r k
def rnT (l : List (Nat × Nat)) (k : Nat) : Nat := bif (l.map (·.1)).contains k then rn l k else k + 1 + (l.map (·.2)).sum
theorem rn_mem : ∀ {l : List (Nat × Nat)} {k : Nat}, k ∈ l.map (·.1) → (k, rn l k) ∈ l
  | [], k, h => by simp at h
  | (a, b) :: r, k, h => by
    unfold rn
    cases hb : Nat.beq k a with
    | true => have := Nat.eq_of_beq_eq_true hb; subst this; simp
    | false =>
      have hne : k ≠ a := fun e => by rw [e, Nat.beq_refl] at hb; cases hb
      simp only [List.map_cons, List.mem_cons] at h
      exact List.mem_cons_of_mem _ (rn_mem (h.resolve_left hne))
theorem sum_ge {l : List Nat} {x : Nat} (h : x ∈ l) : x ≤ l.sum := by
  induction l with
  | nil => simp at h
  | cons a r ih =>
    simp only [List.sum_cons]
    rcases List.mem_cons.1 h with rfl | h
    · omega
    · have := ih h; omega
theorem rnT_inj {l : List (Nat × Nat)} (hn : ∀ p ∈ l, ∀ q ∈ l, p.2 = q.2 → p.1 = q.1) : ∀ i j, rnT l i = rnT l j → i = j := by
  intro i j h
  unfold rnT at h
  cases hi : (l.map (·.1)).contains i <;> cases hj : (l.map (·.1)).contains j <;> rw [hi, hj] at h <;> simp only [cond_true, cond_false] at h
  · omega
  · have h2 := rn_mem (l := l) (k := j) (by simpa using hj)
    have := sum_ge (List.mem_map.2 ⟨_, h2, rfl⟩ : rn l j ∈ l.map (·.2))
    omega
  · have h1 := rn_mem (l := l) (k := i) (by simpa using hi)
    have := sum_ge (List.mem_map.2 ⟨_, h1, rfl⟩ : rn l i ∈ l.map (·.2))
    omega
  · exact hn _ (rn_mem (l := l) (k := i) (by simpa using hi)) _ (rn_mem (l := l) (k := j) (by simpa using hj)) h
end Go.AM
