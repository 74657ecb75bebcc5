/- The abstract machine, part 15: regions, in whatever order they run. It speaks of whatever program. -/
import Derived.Test.YtafieicinmcngaaM14
namespace Go.AM
open Go Go.RowKit
set_option linter.unusedVariables false
set_option linter.unusedSimpArgs false

section
variable {E : Env} {C : Ctx}

/-! ### what a step names -/
theorem NoId.ev_ {s : AS} {d : Nat} (h : s.noId d) (x : Operand) : NoId d (s.ev x) := by
  cases x with
  | tmp t => exact h.1 t
  | const v => exact .c _
  | global g => exact .any
  | func f => exact .c _
theorem NoId.sub {d : Nat} {xs : List AV} {a b : Nat} (h : ∀ (j : Nat) (y : AV), xs[j]? = some y → NoId d y) : NoId d (.agg ((xs.drop a).take b)) := by
  refine .agg fun j y hy => ?_
  rw [List.getElem?_take] at hy
  split at hy
  · rw [List.getElem?_drop] at hy; exact h _ y hy
  · cases hy
theorem Cells.noId {m : Nat → Option Ob} {x : AV} {ys : List AV} {R : List Nat} {d : Nat} (h : Cells m x ys R) (hx : NoId d x) : ∀ (j : Nat) (y : AV), ys[j]? = some y → NoId d y := by
  cases h with
  | agg _ => cases hx with | agg h => exact h
  | cagg cs =>
    intro j y hy
    rw [List.getElem?_map] at hy
    obtain ⟨z, _, rfl⟩ := Option.map_eq_some_iff.1 hy
    exact .c z
  | one _ =>
    intro j y hy
    cases j with
    | zero => simp at hy; subst hy; exact hx
    | succ j => simp at hy
theorem setMany_noId {d off : Nat} {cells ys : List AV} (h1 : ∀ (j : Nat) (y : AV), cells[j]? = some y → NoId d y) (h2 : ∀ (j : Nat) (y : AV), ys[j]? = some y → NoId d y) :
    ∀ (j : Nat) (y : AV), (setMany cells off ys)[j]? = some y → NoId d y := by
  intro j y hy
  have hm := List.mem_of_getElem? hy
  unfold setMany at hm
  rcases List.mem_append.1 hm with hm | hm
  · rcases List.mem_append.1 hm with hm | hm
    · obtain ⟨k, hk⟩ := List.mem_iff_getElem?.1 (List.mem_of_mem_take hm); exact h1 k y hk
    · obtain ⟨k, hk⟩ := List.mem_iff_getElem?.1 hm; exact h2 k y hk
  · obtain ⟨k, hk⟩ := List.mem_iff_getElem?.1 (List.mem_of_mem_drop hm); exact h1 k y hk
theorem Fill.noId {m : Nat → Option Ob} {fs : Array Field} {cells out : List AV} {parts : List (Nat × AV)} {R : List Nat} {d : Nat} (h : Fill E m fs cells parts out R) :
    (∀ (j : Nat) (y : AV), cells[j]? = some y → NoId d y) → (∀ p ∈ parts, NoId d p.2) → ∀ (j : Nat) (y : AV), out[j]? = some y → NoId d y := by
  induction h with
  | nil cells => exact fun h _ => h
  | cons hf ht hc hl hb h ih =>
    intro h1 h2
    exact ih (setMany_noId h1 (hc.noId (h2 _ List.mem_cons_self))) fun p hp => h2 p (by simp [hp])

theorem StepV.noId {s : AS} {op : Op} {v : AV} {R : List Nat} {d : Nat} (h : StepV E s.m s.ev op v R) (hn : s.noId d) : NoId d v := by
  have ev := fun x => NoId.ev_ hn x
  cases h with
  | move x => exact ev x
  | assign x => exact ev x
  | pickT hc => exact ev _
  | pickF hc => exact ev _
  | loadL hx h2 ht hd hy => exact hn.2 _ _ h2 _ _ hy
  | loadLA hx h2 ht hd hy => exact NoId.sub (hn.2 _ _ h2)
  | fldL hx h2 ht hd hf h3 h0 => rename_i x _ _ _ _ _ _ _ _ ; have := ev x; rw [hx] at this; cases this with | loc h => exact .loc h
  | fldE hx h2 hn' ht hd hf h3 h0 => rename_i x _ _ _ _ _ _ _ _ _ _ _ _; have := ev x; rw [hx] at this; cases this with | el h => exact .el h
  | idxM hx h2 hn' hi h0 hlt ht hd h3 hs => rename_i x _ _ _ _ _ _ _ _ _ _ _; have := ev x; rw [hx] at this; cases this with | ms h => exact .el h
  | extract hx hy => rename_i x _ _; have := ev x; rw [hx] at this; cases this with | tup h => exact h _ _ hy
  | build ht hd ha hf =>
    refine .agg (hf.noId (fun j y hy => ?_) fun p hp => ?_)
    · rw [List.getElem?_map] at hy
      obtain ⟨z, _, rfl⟩ := Option.map_eq_some_iff.1 hy
      exact .c _
    · obtain ⟨q, _, rfl⟩ := List.mem_map.1 hp
      exact ev _
  | callF hc hx ha hp =>
    unfold resAV
    split
    · exact .c _
    · refine .tup fun j y hy => ?_
      rw [List.getElem?_map] at hy
      obtain ⟨z, _, rfl⟩ := Option.map_eq_some_iff.1 hy
      exact .c _
  | callP hc hx ha hp =>
    unfold resAV
    split
    · exact .c _
    · refine .tup fun j y hy => ?_
      rw [List.getElem?_map] at hy
      obtain ⟨z, _, rfl⟩ := Option.map_eq_some_iff.1 hy
      exact .c _
  | callB hc hx hp hs =>
    unfold resAV
    split
    · exact .c _
    · refine .tup fun j y hy => ?_
      rw [List.getElem?_map] at hy
      obtain ⟨z, _, rfl⟩ := Option.map_eq_some_iff.1 hy
      exact .c _
  | _ => exact .c _

theorem StepR.noId {s : AS} {dst : Option Tmp} {op : Op} {v : AV} {mw : List (Nat × Option Ob)} {R F : List Nat} {d : Nat} (h : StepR E s.m s.ev dst op v mw R F) (hn : s.noId d) (hd : d ∉ F) :
    NoId d v ∧ ∀ p ∈ mw, ∀ o, p.2 = some o → o.noId d := by
  have ev := fun x => NoId.ev_ hn x
  cases h with
  | val h => exact ⟨h.noId hn, fun p hp => by simp at hp⟩
  | box hc =>
    refine ⟨.loc (fun e => hd (by simp [e])), fun p hp o ho => ?_⟩
    simp at hp; subst hp; simp at ho; subst ho
    exact hc.noId (ev _)
  | alloc ht =>
    refine ⟨.loc (fun e => hd (by simp [e])), fun p hp o ho => ?_⟩
    simp at hp; subst hp; simp at ho; subst ho
    intro j y hy
    rw [List.getElem?_map] at hy
    obtain ⟨z, _, rfl⟩ := Option.map_eq_some_iff.1 hy
    exact .c _
  | storeL hx h2 ht hy h1 hl hb =>
    refine ⟨.any, fun p hp o ho => ?_⟩
    simp at hp; subst hp; simp at ho; subst ho
    exact setMany_noId (hn.2 _ _ h2) (hy.noId (ev _))
  | appM hx h2 hn' hy ht hd' h3 hs hb hb0 h1 h0 =>
    rename_i d' t x y i n sz e xs ys td de
    refine ⟨.ms fun e' => ?_, fun p hp o ho => ?_⟩
    · subst e'
      cases hb : Nat.beq i d' with
      | true =>
        have := Nat.eq_of_beq_eq_true hb; subst this
        have := ev x; rw [hx] at this; cases this with | ms h => exact h rfl
      | false => rw [hb] at hd; simp at hd
    · simp at hp
      rcases hp with rfl | rfl
      · simp at ho
      · simp at ho; subst ho; trivial
  | appN hx hy ht hd' h3 hs h0 hb hb0 h1 =>
    refine ⟨.ms fun e => hd (by simp [e]), fun p hp o ho => ?_⟩
    simp at hp; subst hp; simp at ho; subst ho; trivial
  | mkM hx hy hnc ht hd' h3 hz hs hb hc =>
    refine ⟨.ms fun e => hd (by simp [e]), fun p hp o ho => ?_⟩
    simp at hp; subst hp; simp at ho; subst ho; trivial
  | storeE hx h2 hn' hk ht hy hz h1 hl hb he =>
    refine ⟨.any, fun p hp o ho => ?_⟩
    simp at hp; subst hp; simp at ho; subst ho; trivial
  | callO hc hx h2 hnb hlt hp =>
    rename_i args ats f us xs rs oa ob
    have hnm : NoMen d rs ob := by
      by_cases h1 : d ∈ oa.map (·.1)
      · refine absurd ⟨fun x hx' => ?_, fun p hp => hn.2 p.1 p.2 (h2 p hp)⟩ (hp.root d h1)
        obtain ⟨j, hj⟩ := List.mem_iff_getElem?.1 hx'
        have hjl : j < (args.toList.map s.ev ++ us.map fun u => AV.c (.v u)).length := by rw [hx.1]; exact (List.getElem?_eq_some_iff.1 hj).1
        refine (hx.2 j _ x (List.getElem?_eq_getElem hjl) hj).noId d ?_
        have hmem := List.getElem_mem hjl
        rcases List.mem_append.1 hmem with hm' | hm'
        · obtain ⟨q, _, hq⟩ := List.mem_map.1 hm'; rw [← hq]; exact ev q
        · obtain ⟨q, _, hq⟩ := List.mem_map.1 hm'; rw [← hq]; exact .c _
      · exact hp.clo d h1 fun h3 => hd (mem_newIds.2 ⟨h3, h1⟩)
    refine ⟨?_, fun p hp' o ho => ?_⟩
    · unfold resA
      split
      · exact hnm.1 _ (by simp)
      · exact .tup fun j y hy => hnm.1 y (List.mem_of_getElem? hy)
    · unfold ownW at hp'
      rcases List.mem_append.1 hp' with hq | hq
      · obtain ⟨q, _, rfl⟩ := List.mem_map.1 hq; simp at ho
      · obtain ⟨q, hqm, rfl⟩ := List.mem_map.1 hq; simp at ho; subst ho; exact hnm.2 q hqm
  | run xs hx h => exact ⟨.c _, fun p hp => by simp at hp⟩
  | nilL hx h2 => rename_i x _ _ _; have := ev x; rw [hx] at this; exact ⟨this, fun p hp => by simp at hp⟩
  | nilE hx h2 hn' => rename_i x _ _ _ _ _ _ _ _; have := ev x; rw [hx] at this; exact ⟨this, fun p hp => by simp at hp⟩
  | idxL hx h2 hi h0 hlt ht hd' h3 => rename_i x _ _ _ _ _ _ _ _ _ _; have := ev x; rw [hx] at this; exact ⟨(by cases this with | loc h => exact .loc h), fun p hp => by simp at hp⟩
  | eqNL hop hx h2 hy ht hd' => exact ⟨.c _, fun p hp => by simp at hp⟩

theorem updMs_noId {d : Nat} : ∀ (mw : List (Nat × Option Ob)) (m : Nat → Option Ob), (∀ i o, m i = some o → o.noId d) → (∀ p ∈ mw, ∀ o, p.2 = some o → o.noId d) → ∀ i o, updMs m mw i = some o → o.noId d
  | [], m, h, _ => h
  | (i, o) :: r, m, h, hp => updMs_noId r _ (fun j q hq => by
      by_cases e : j = i
      · subst e; rw [updM_same] at hq; exact hp _ List.mem_cons_self q hq
      · rw [updM_ne _ _ e] at hq; exact h j q hq) fun p hpm => hp p (by simp [hpm])
theorem putT_noId {d : Nat} {t : Nat → AV} (dst : Option Tmp) {v : AV} (h : ∀ j, NoId d (t j)) (hv : NoId d v) : ∀ j, NoId d (putT t dst v j) := by
  intro j
  cases dst with
  | none => exact h j
  | some e =>
    show NoId d (bif Nat.beq j e then v else t j)
    cases Nat.beq j e with
    | true => exact hv
    | false => exact h j

/-! ### a step under its guard -/
inductive StepO (E : Env) (ops : Array Oper) (s : AS) (o : Oper) : AV → List (Nat × Option Ob) → List Nat → List Nat → Prop where
  | plain {v : AV} {mw : List (Nat × Option Ob)} {R F : List Nat} (hg : o.guard = none) (h : StepR E s.m s.ev o.dst o.op v mw R F) : StepO E ops s o v mw R F
  | yes {v : AV} {mw : List (Nat × Option Ob)} {R F : List Nat} {j : Nat} {q : Bool} {d : Tmp} (hg : o.guard = some (j, q)) (hj : (ops[j]?).bind (·.dst) = some d) (hq : s.t d = .c (.v (.bool q)))
      (h : StepR E s.m s.ev o.dst o.op v mw R F) : StepO E ops s o v mw R F
  | no {j : Nat} {q q' : Bool} {d : Tmp} (hg : o.guard = some (j, q)) (hj : (ops[j]?).bind (·.dst) = some d) (hq : s.t d = .c (.v (.bool q'))) (hne : (q' == q) = false) : StepO E ops s o (.c (.v undef)) [] [] []
  | noU {j : Nat} {q : Bool} {d : Tmp} (hg : o.guard = some (j, q)) (hj : (ops[j]?).bind (·.dst) = some d) (hq : s.t d = .c (.v undef)) : StepO E ops s o (.c (.v undef)) [] [] []

theorem StepO.noId {ops : Array Oper} {s : AS} {o : Oper} {v : AV} {mw : List (Nat × Option Ob)} {R F : List Nat} {d : Nat} (h : StepO E ops s o v mw R F) (hn : s.noId d) (hd : d ∉ F) : (s.app o.dst v mw).noId d := by
  have : NoId d v ∧ ∀ p ∈ mw, ∀ o, p.2 = some o → o.noId d := by
    cases h with
    | plain _ h => exact h.noId hn hd
    | yes _ _ _ h => exact h.noId hn hd
    | no => exact ⟨.c _, fun p hp => by simp at hp⟩
    | noU => exact ⟨.c _, fun p hp => by simp at hp⟩
  exact ⟨putT_noId _ hn.1 this.1, updMs_noId _ _ hn.2 this.2⟩

theorem yielded_of {ops : Array Oper} {s : AS} {ρ : Nat → Value} {a : Act} {w : World} (h : STr C s ρ a w) {j : Nat} {d : Tmp} (hj : (ops[j]?).bind (·.dst) = some d) {q : Bool} (hq : s.t d = .c (.v (.bool q))) :
    yielded ops a.tmps j = some q := by
  have hv := h.tmp d
  rw [hq] at hv
  have hv := hv.v_inv
  unfold yielded
  rw [hj]
  simp only [Option.bind_some]
  cases hd : a.tmps[d]? with
  | none => simp [Array.getD_eq_getD_getElem?, hd, undef] at hv
  | some x => simp [Array.getD_eq_getD_getElem?, hd] at hv; subst hv; rfl

theorem yielded_undef {ops : Array Oper} {s : AS} {ρ : Nat → Value} {a : Act} {w : World} (h : STr C s ρ a w) {j : Nat} {d : Tmp} (hj : (ops[j]?).bind (·.dst) = some d) (hq : s.t d = .c (.v undef)) :
    yielded ops a.tmps j = none := by
  have hv := h.tmp d
  rw [hq] at hv
  have hv := hv.v_inv
  unfold yielded
  rw [hj]
  simp only [Option.bind_some]
  cases hd : a.tmps[d]? with
  | none => rfl
  | some x => simp [Array.getD_eq_getD_getElem?, hd] at hv; subst hv; rfl

/-- One operation of a region, sound. -/
theorem StepO.wp {ops : Array Oper} {s : AS} {ρ : Nat → Value} {a : Act} {w : World} (h : STr C s ρ a w) {i : Nat} {o : Oper} (hoi : ops[i]? = some o) {v : AV} {mw : List (Nat × Option Ob)} {R F : List Nat}
    (hs : StepO E ops s o v mw R F) (hd : ∀ d, o.dst = some d → d < C.n) (hF : ∀ d ∈ F, s.noId d) {K : Act → World → Prop} {Q : Exit → Act → World → Prop}
    (hK : ∀ a' w', ST C (s.app o.dst v mw) a' w' → K a' w') : wpOp E.P ops Q i K a w := by
  unfold wpOp
  rw [hoi]
  simp only
  cases hs with
  | plain hg hs =>
    rw [if_pos (by simp [Region.wanted, hg])]
    exact .inl (hs.wp h rfl rfl hd hF hK)
  | yes hg hj hq hs =>
    rw [if_pos (by simp [Region.wanted, hg, yielded_of h hj hq])]
    exact .inl (hs.wp h rfl rfl hd hF hK)
  | no hg hj hq hne =>
    rw [if_neg (by simp only [Region.wanted, hg, yielded_of h hj hq]; intro hc; rw [beq_iff_eq] at hc; injection hc with hc; rw [hc] at hne; simp at hne)]
    exact hK _ _ ⟨ρ, h.put o.dst hd fun _ => .c (.v _)⟩
  | noU hg hj hq =>
    rw [if_neg (by simp only [Region.wanted, hg, yielded_undef h hj hq]; intro hc; cases hc)]
    exact hK _ _ ⟨ρ, h.put o.dst hd fun _ => .c (.v _)⟩

theorem StepO.loc_ {ops : Array Oper} {s s' : AS} {o : Oper} {v : AV} {mw : List (Nat × Option Ob)} {R F : List Nat} (h : StepO E ops s o v mw R F)
    (ht : ∀ d ∈ o.looksAt ops, s'.t d = s.t d) (hm : ∀ i ∈ R, s'.m i = s.m i) : StepO E ops s' o v mw R F := by
  have he : ∀ x ∈ o.op.operands.toList, s'.ev x = s.ev x := by
    intro x hx
    cases x with
    | tmp t => exact ht t (by
        unfold Oper.looksAt
        exact List.mem_append_left _ (List.mem_filterMap.2 ⟨_, hx, rfl⟩))
    | _ => rfl
  have hgd : ∀ j q d, o.guard = some (j, q) → (ops[j]?).bind (·.dst) = some d → s'.t d = s.t d := by
    intro j q d hg hj
    refine ht d ?_
    unfold Oper.looksAt
    refine List.mem_append_right _ ?_
    rw [hg]; simp only; rw [hj]; simp
  cases h with
  | plain hg h => exact .plain hg (h.loc_ he hm)
  | yes hg hj hq h => exact .yes hg hj (by rw [hgd _ _ _ hg hj]; exact hq) (h.loc_ he hm)
  | no hg hj hq hne => exact .no hg hj (by rw [hgd _ _ _ hg hj]; exact hq) hne
  | noU hg hj hq => exact .noU hg hj (by rw [hgd _ _ _ hg hj]; exact hq)
end
end Go.AM
