/- The abstract machine's further steps: calls that are handed objects, and operations on plain contents. It speaks of whatever program. -/
import Derived.Test.YtcmldokgjbmbdaaB3
import Derived.Test.YtcmldokgjbmbdaaB2
namespace Go.AM
open Go Go.RowKit
set_option linter.unusedVariables false
set_option linter.unusedSimpArgs false

section
variable {E : Env} {C : Ctx} {s : AS} {Q : Ex → AS → Prop} {m : Nat → Option Ob} {ev : Operand → AV}

theorem gR {ops : Array Oper} {dst : Option Tmp} {op : Op} {ty : TypeId} {pos : String} {after : Array Edge} {v : AV} {mw : List (Nat × Option Ob)} {R F : List Nat} {j : Nat} {q : Bool} {d : Tmp} (hj : (ops[j]?).bind (·.dst) = some d) (hq : s.t d = .c (.v (.bool q)))
    (h : StepR E s.m s.ev dst op v mw R F) : StepO E ops s ⟨dst, op, ty, pos, after, some (j, q)⟩ v mw R F := .yes rfl hj hq h
theorem gRB {ops : Array Oper} {dst : Option Tmp} {op : Op} {ty : TypeId} {pos : String} {after : Array Edge} {v : AV} {mw : List (Nat × Option Ob)} {R F : List Nat} {j : Nat} {q b : Bool} {d : Tmp} (hj : (ops[j]?).bind (·.dst) = some d) (hq : s.t d = .c (.v (.bool b)))
    (hb : b = q) (h : StepR E s.m s.ev dst op v mw R F) : StepO E ops s ⟨dst, op, ty, pos, after, some (j, q)⟩ v mw R F := .yes rfl hj (hb ▸ hq) h

/-! what is handed over -/
theorem aR {x y : AV} (h : x = y) : ToA x y := h ▸ .refl _
theorem tas {xs ys : List AV} (h : ToAs xs ys := by
  first | (· (repeat (first | exact ToAs.nil | (apply ToAs.cons; (first | exact aR rfl | exact .c (tE rfl) | exact .c (tCv rfl) | exact .c (tNV rfl) | exact .c (tNil rfl rfl) | exact .c (tF rfl (LeC.fl _)) | exact .c (tF rfl (LeC.refl _)) | exact .c (by refine tV5 rfl ?_ ?_ <;> first | exact LeC.fl _ | exact LeC.refl _ | exact LeC.nv | exact LeC.nil _ (by decide)))))) ) | fail) : ToAs xs ys := h

/-! calls that are handed objects: one or two that stay, one or two that are new, one that is taken -/
variable {dst : Option Tmp} {callee : Operand} {args : Array Operand} {ats : Array TypeId} {f : FuncId} {xs rs : List AV}
theorem coP1 {i : Nat} {o o' : Ob} (hc : ev callee = .c (.v (.func (.func f) #[] #[]))) (hp : Own E.P f xs [(i, o)] rs [(i, o')]) (hm : m i = some o) (hx : ToAs (args.toList.map ev) xs) :
    StepR E m ev dst (.call { callee := .value callee, args := args, argTypes := ats }) (resA rs) [(i, none), (i, some o')] [i] [] := by
  have := StepR.callO (E := E) (m := m) (ev := ev) (dst := dst) (ats := ats) hc (us := []) (by simpa using hx) (fun p hp => by simp at hp; subst hp; exact hm) (by simp) (by simp [newIds]) hp
  simpa [ownW, newIds] using this
theorem coP2 {i j : Nat} {o o' p p' : Ob} (hc : ev callee = .c (.v (.func (.func f) #[] #[]))) (hp : Own E.P f xs [(i, o), (j, p)] rs [(i, o'), (j, p')]) (hij : Nat.beq i j = false) (hm : m i = some o) (hm2 : m j = some p) (hx : ToAs (args.toList.map ev) xs) :
    StepR E m ev dst (.call { callee := .value callee, args := args, argTypes := ats }) (resA rs) [(i, none), (j, none), (i, some o'), (j, some p')] [i, j] [] := by
  have hne : i ≠ j := fun e => by rw [e, Nat.beq_refl] at hij; cases hij
  have := StepR.callO (E := E) (m := m) (ev := ev) (dst := dst) (ats := ats) hc (us := []) (by simpa using hx) (fun q hq => by simp at hq; rcases hq with rfl | rfl <;> assumption) (by simpa using hne) (by simp [newIds]) hp
  simpa [ownW, newIds] using this
theorem coN1 {i : Nat} {o : Ob} (hc : ev callee = .c (.v (.func (.func f) #[] #[]))) (hp : Own E.P f xs [] rs [(i, o)]) (hi : Nat.blt i 1000000 = true) (hx : ToAs (args.toList.map ev) xs) :
    StepR E m ev dst (.call { callee := .value callee, args := args, argTypes := ats }) (resA rs) [(i, some o)] [] [i] := by
  have hi := Nat.le_of_ble_eq_true hi
  have := StepR.callO (E := E) (m := m) (ev := ev) (dst := dst) (ats := ats) hc (us := []) (by simpa using hx) (fun p hp => by simp at hp) (by simp) (by simp [newIds]; omega) hp
  simpa [ownW, newIds] using this
theorem coN2 {i j : Nat} {o p : Ob} (hc : ev callee = .c (.v (.func (.func f) #[] #[]))) (hp : Own E.P f xs [] rs [(i, o), (j, p)]) (hij : Nat.beq i j = false) (hi : Nat.blt i 1000000 = true) (hj : Nat.blt j 1000000 = true) (hx : ToAs (args.toList.map ev) xs) :
    StepR E m ev dst (.call { callee := .value callee, args := args, argTypes := ats }) (resA rs) [(i, some o), (j, some p)] [] [i, j] := by
  have hi := Nat.le_of_ble_eq_true hi
  have hj := Nat.le_of_ble_eq_true hj
  have hne : i ≠ j := fun e => by rw [e, Nat.beq_refl] at hij; cases hij
  have := StepR.callO (E := E) (m := m) (ev := ev) (dst := dst) (ats := ats) hc (us := []) (by simpa using hx) (fun p hp => by simp at hp) (by simpa using hne) (by simp [newIds]; omega) hp
  simpa [ownW, newIds] using this
theorem coC1 {i : Nat} {o : Ob} (hc : ev callee = .c (.v (.func (.func f) #[] #[]))) (hp : Own E.P f xs [(i, o)] rs []) (hm : m i = some o) (hx : ToAs (args.toList.map ev) xs) :
    StepR E m ev dst (.call { callee := .value callee, args := args, argTypes := ats }) (resA rs) [(i, none)] [i] [] := by
  have := StepR.callO (E := E) (m := m) (ev := ev) (dst := dst) (ats := ats) hc (us := []) (by simpa using hx) (fun p hp => by simp at hp; subst hp; exact hm) (by simp) (by simp [newIds]) hp
  simpa [ownW, newIds] using this

/-! contracts -/
theorem noId_c {d : Nat} {x : CV} : NoId d (.c x) ↔ True := ⟨fun _ => trivial, fun _ => .c x⟩
theorem noId_any {d : Nat} : NoId d .any ↔ True := ⟨fun _ => trivial, fun _ => .any⟩
theorem noId_loc {d i off : Nat} : NoId d (.loc i off) ↔ i ≠ d := ⟨fun h => by cases h; assumption, .loc⟩
theorem noId_ms {d i n : Nat} : NoId d (.ms i n) ↔ i ≠ d := ⟨fun h => by cases h; assumption, .ms⟩
theorem noId_agg {d : Nat} {xs : List AV} : NoId d (.agg xs) ↔ ∀ x ∈ xs, NoId d x := by
  constructor
  · intro h x hx
    obtain ⟨j, hj⟩ := List.mem_iff_getElem?.1 hx
    cases h with | agg h => exact h j x hj
  · exact fun h => .agg fun j y hy => h y (List.mem_of_getElem? hy)
theorem noId_box {d : Nat} {xs : List AV} : Ob.noId d (.box xs) ↔ ∀ x ∈ xs, NoId d x := by
  constructor
  · intro h x hx
    obtain ⟨j, hj⟩ := List.mem_iff_getElem?.1 hx
    exact h j x hj
  · exact fun h j y hy => h y (List.mem_of_getElem? hy)
theorem noId_arr {d sz e : Nat} {xs : List CV} : Ob.noId d (.arr sz e xs) ↔ True := Iff.rfl
theorem like_of {oa ob : List (Nat × Ob)} (h : ∀ p ∈ oa, ∀ q ∈ ob, p.1 = q.1 → p.2.like q.2) : ∀ i o o', mkM oa i = some o → mkM ob i = some o' → o.like o' :=
  fun i o o' h1 h2 => h _ (mkM_mem h1) _ (mkM_mem h2) rfl
theorem Own.go' {f : FuncId} {fn : Func} {c : Code} {xs rs : List AV} {oa ob : List (Nat × Ob)} {rvs : List ResultVar} (hf : E.P.funcs[f]? = some fn) (hb : fn.body = some c) (hname : (fn.name == "runtime.NumGoroutine") = false) (hr : fn.results = ⟨rvs⟩)
    (hn : xs.length ≤ fn.ntmps) (hn0 : fn.ntmps ≤ 1000000) (like : ∀ p ∈ oa, ∀ q ∈ ob, p.1 = q.1 → p.2.like q.2)
    (h6 : ∀ p ∈ oa, 1000000 ≤ p.1 := by (first | (· simp) | fail))
    (clo : ∀ k, k ∉ oa.map (·.1) → k ∉ ob.map (·.1) → NoMen k rs ob := by (first | (· (intro k h1 h2; simp [NoMen, noId_c, noId_any, noId_loc, noId_ms, noId_agg, noId_box, noId_arr] at h1 h2 ⊢; try omega)) | (· (intro k h1 h2; simp [NoMen, noId_c, noId_any, noId_loc, noId_ms, noId_agg, noId_box, noId_arr])) | fail))
    (root : ∀ k, k ∈ oa.map (·.1) → ¬ NoMen k xs oa := by (first | (· (intro k h1 h2; simp [NoMen, noId_c, noId_any, noId_loc, noId_ms, noId_agg, noId_box, noId_arr] at h1 h2; try omega)) | (· (intro k h1; simp at h1)) | fail))
    (fresh : ∀ d, d ∉ oa.map (·.1) → NoMen d xs oa := by (first | (· (intro k h1; simp [NoMen, noId_c, noId_any, noId_loc, noId_ms, noId_agg, noId_box, noId_arr] at h1 ⊢; try omega)) | (· (intro k h1; simp [NoMen, noId_c, noId_any, noId_loc, noId_ms, noId_agg, noId_box, noId_arr])) | fail))
    (h : ∀ C : Ctx, C.n = fn.ntmps → (∀ b, C.T0 b → ¬ C.L0 b) → Fresh (oa.map (·.1)) ⟨argA xs, mkM oa⟩ → CQ E C c ⟨argA xs, mkM oa⟩ (retO E rvs rs ob)) : Own E.P f xs oa rs ob :=
  .go hf hb hname hr hn hn0 h6 (like_of like) clo root fresh h
/-- Under the names that a caller has. -/
theorem rens {r : Nat → Nat} {xs ys : List AV} (h : RenL r xs ys := by
  first | (· (repeat' (first | exact RenL.nil | exact RenL.all _ | apply RenL.cons | exact Ren.c _ | exact Ren.any | exact Ren.loc rfl | exact Ren.ms rfl | apply Ren.aggs))) | fail) : RenL r xs ys := h
theorem renm {r : Nat → Nat} {xs ys : List (Nat × Ob)} (h : RenM r xs ys := by
  first | (· (repeat' (first | exact RenM.nil | apply RenM.cons rfl | exact RenO.arr _ _ _ | apply RenO.box | exact RenL.nil | exact RenL.all _ | apply RenL.cons | exact Ren.c _ | exact Ren.any | exact Ren.loc rfl | exact Ren.ms rfl | apply Ren.aggs))) | fail) : RenM r xs ys := h
theorem Own.as {P : Program} {xs' rs' : List AV} {oa oa' ob ob' : List (Nat × Ob)} (l : List (Nat × Nat)) (hn : ∀ p ∈ l, ∀ q ∈ l, p.2 = q.2 → p.1 = q.1) (h : Own P f xs oa rs ob) (hx : RenL (rnT l) xs xs') (ha : RenM (rnT l) oa oa') (hs : RenL (rnT l) rs rs') (hb : RenM (rnT l) ob ob') : Own P f xs' oa' rs' ob' :=
  h.ren (rnT_inj hn) hx ha hs hb

theorem nd1 {i : Nat} : ∀ p ∈ [(1000000, i)], ∀ q ∈ [(1000000, i)], p.2 = q.2 → p.1 = q.1 := by simp
theorem nd2 {a b i j : Nat} (h : i ≠ j) : ∀ p ∈ [(a, i), (b, j)], ∀ q ∈ [(a, i), (b, j)], p.2 = q.2 → p.1 = q.1 := by
  intro p hp q hq e
  simp at hp hq
  rcases hp with rfl | rfl <;> rcases hq with rfl | rfl <;> simp_all
/-! operations on plain contents -/
theorem mnI {x y : Operand} {k : IntKind} {a b : Int} (hx : ev x = .c (.v (.int k a))) (hy : ev y = .c (.v (.int k b))) :
    StepR E m ev dst (.call { callee := .builtin .min, args := #[x, y], argTypes := ats }) (.c (.v (.int k (if b < a then b else a)))) [] [] [] :=
  .run [(x, .v (.int k a)), (y, .v (.int k b))] (by simp [hx, hy, Op.operands, Call.operands]) fun w L eval o hL ho h => by
    have h1 : eval x = .int k a := (h (x, .v (.int k a)) (by simp)).v_inv
    have h2 : eval y = .int k b := (h (y, .v (.int k b)) (by simp)).v_inv
    exact ⟨_, w, by simp [execOp, ho, resolve, invoke, builtin, Builtin.min_, Builtin.min2, h1, h2], Keep.refl _ w, .v _⟩
theorem mxI {x y : Operand} {k : IntKind} {a b : Int} (hx : ev x = .c (.v (.int k a))) (hy : ev y = .c (.v (.int k b))) :
    StepR E m ev dst (.call { callee := .builtin .max, args := #[x, y], argTypes := ats }) (.c (.v (.int k (if b > a then b else a)))) [] [] [] :=
  .run [(x, .v (.int k a)), (y, .v (.int k b))] (by simp [hx, hy, Op.operands, Call.operands]) fun w L eval o hL ho h => by
    have h1 : eval x = .int k a := (h (x, .v (.int k a)) (by simp)).v_inv
    have h2 : eval y = .int k b := (h (y, .v (.int k b)) (by simp)).v_inv
    exact ⟨_, w, by simp [execOp, ho, resolve, invoke, builtin, Builtin.max_, Builtin.max2, h1, h2], Keep.refl _ w, .v _⟩
theorem quI {t u : TypeId} {x y : Operand} {k : IntKind} {a b : Int} (hx : ev x = .c (.v (.int k a))) (hy : ev y = .c (.v (.int k b))) (hb : (b == 0) = false) :
    StepR E m ev dst (.binOp .quo t x y u) (.c (.v (.int k (k.wrap (a.tdiv b))))) [] [] [] :=
  .run [(x, .v (.int k a)), (y, .v (.int k b))] (by simp [hx, hy, Op.operands]) fun w L eval o hL ho h => by
    have h1 : eval x = .int k a := (h (x, .v (.int k a)) (by simp)).v_inv
    have h2 : eval y = .int k b := (h (y, .v (.int k b)) (by simp)).v_inv
    have hb' : ¬ b = 0 := by simpa using hb
    exact ⟨_, w, by simp [execOp, ho, eqGuard, binOp, Op.intDiv, h1, h2, hb'], Keep.refl _ w, .v _⟩
/-- Two whole numbers as an array. -/
theorem bA2 {t e : TypeId} {x y : Operand} {k : IntKind} {a b : Int} {d de : TD} {z : Value} (hx : ev x = .c (.v (.int k a))) (hy : ev y = .c (.v (.int k b))) (ht : E.Ty t = some d) (hd : d.desc = .array 2 e) (hz : d.zero = [z, z]) (he : E.Ty e = some de) (hs : de.sz = 1) :
    StepR E m ev dst (.build t #[(0, x), (1, y)]) (.c (.agg [.v (.int k a), .v (.int k b)])) [] [] [] :=
  .run [(x, .v (.int k a)), (y, .v (.int k b))] (by simp [hx, hy, Op.operands]) fun w L eval o hL ho h => by
    have h1 : eval x = .int k a := (h (x, .v (.int k a)) (by simp)).v_inv
    have h2 : eval y = .int k b := (h (y, .v (.int k b)) (by simp)).v_inv
    obtain ⟨zv, hzr, hzc⟩ := Env.zero ht w
    have hu := Env.und ht; rw [hd] at hu
    have hzc' : zv.cells = #[z, z] := by apply Array.ext'; rw [hzc, hz]
    have hsz := Env.size he w; rw [hs] at hsz
    refine ⟨.agg #[.int k a, .int k b], w, ?_, Keep.refl _ w, .agg rfl fun j y hy => ?_⟩
    · have e : (Instr.build t #[(0, .int k a), (1, .int k b)]).run E.P w = .ok (.agg #[.int k a, .int k b]) w := by
        unfold Instr.build
        simp only [Sem.run_bind, hzr, Result.andThen_ok, run_underlying hu, hsz, hzc']
        rfl
      simp [execOp, ho, h1, h2, e]
    · match j with
      | 0 => simp at hy; subst hy; exact .v _
      | 1 => simp at hy; subst hy; exact .v _
      | j + 2 => simp at hy
/-! a slice that is nil is a row of the call's own, as yet empty -/
inductive AdA (d : Nat) : AV → AV → Prop where
  | refl (x : AV) : AdA d x x
  | nil : AdA d (.c (.v (.slice none 0 0))) (.ms d 0)
inductive AdC (d : Nat) : List AV → List AV → Prop where
  | nil : AdC d [] []
  | cons {x y : AV} {xs ys : List AV} (h : AdA d x y) (hs : AdC d xs ys) : AdC d (x :: xs) (y :: ys)
inductive AdO (d : Nat) : Ob → Ob → Prop where
  | refl (o : Ob) : AdO d o o
  | box {xs ys : List AV} (h : AdC d xs ys) : AdO d (.box xs) (.box ys)
inductive AdT (d : Nat) : List (Nat × AV) → List (Nat × AV) → Prop where
  | nil : AdT d [] []
  | cons {k : Nat} {x y : AV} {xs ys : List (Nat × AV)} (h : AdA d x y) (hs : AdT d xs ys) : AdT d ((k, x) :: xs) ((k, y) :: ys)
inductive AdM (d : Nat) : List (Nat × Ob) → List (Nat × Ob) → Prop where
  | nil : AdM d [] []
  | cons {k : Nat} {x y : Ob} {xs ys : List (Nat × Ob)} (h : AdO d x y) (hk : Nat.beq k d = false) (hs : AdM d xs ys) : AdM d ((k, x) :: xs) ((k, y) :: ys)
theorem AdC.get {d : Nat} {xs ys : List AV} (h : AdC d xs ys) : xs.length = ys.length ∧ ∀ (j : Nat) (x y : AV), xs[j]? = some x → ys[j]? = some y → AdA d x y := by
  induction h with
  | nil => exact ⟨rfl, fun j x y hx => by simp at hx⟩
  | cons h hs ih =>
    refine ⟨by simp [ih.1], fun j x y hx hy => ?_⟩
    cases j with
    | zero => simp at hx hy; subst hx; subst hy; exact h
    | succ j => exact ih.2 j x y (by simpa using hx) (by simpa using hy)
theorem AdT.get {d : Nat} {ts ts' : List (Nat × AV)} (h : AdT d ts ts') (j : Nat) : AdA d (mkT ts j) (mkT ts' j) := by
  induction h with
  | nil => exact .refl _
  | cons h hs ih =>
    rename_i k x y xs ys
    show AdA d (bif Nat.beq j k then x else mkT xs j) (bif Nat.beq j k then y else mkT ys j)
    cases Nat.beq j k with
    | true => exact h
    | false => exact ih
theorem AdM.get {d : Nat} {ms ms' : List (Nat × Ob)} (h : AdM d ms ms') (i : Nat) : (mkM ms i = none ∧ mkM ms' i = none) ∨ ∃ o o', mkM ms i = some o ∧ mkM ms' i = some o' ∧ AdO d o o' ∧ i ≠ d := by
  induction h with
  | nil => exact .inl ⟨rfl, rfl⟩
  | cons h hk hs ih =>
    rename_i k x y xs ys
    by_cases e : i = k
    · subst e
      exact .inr ⟨x, y, by simp only [mkM, updM_same], by simp only [mkM, updM_same], h, fun e' => by rw [e', Nat.beq_refl] at hk; cases hk⟩
    · simp only [mkM, updM_ne _ _ e]; exact ih
theorem CQ.adopt {c : Code} (d sz e : Nat) (U : List Nat) (ts ts' : List (Nat × AV)) (ms ms' : List (Nat × Ob)) (hT : ∀ b, C.T0 b → ¬ C.L0 b) (hw : Wk s ⟨mkT ts, mkM ms⟩) (hf : Fresh U ⟨mkT ts, mkM ms⟩) (hU : U.contains d = false) (hd : Nat.blt d 1000000 = true) (h0 : Nat.blt 0 sz = true)
    (ht : AdT d ts ts') (hm : AdM d ms ms') (h : CQ E C c ⟨mkT ts', mkM ((d, .arr sz e []) :: ms')⟩ Q) : CQ E C c s Q := by
  refine CQ.weak hw hT fun a w ⟨ρ, hs⟩ => h a w ⟨updV ρ d (.slice none 0 0), ?_⟩
  have hd := Nat.le_of_ble_eq_true hd
  have h0 := Nat.le_of_ble_eq_true h0
  obtain ⟨hn1, hn2⟩ := hf d (by simpa using hU)
  have hmm : ∀ i o', mkM ((d, .arr sz e []) :: ms') i = some o' → (i = d ∧ o' = .arr sz e []) ∨ (i ≠ d ∧ ∃ o, mkM ms i = some o ∧ mkM ms' i = some o' ∧ AdO d o o') := by
    intro i o' hi
    by_cases ed : i = d
    · subst ed; simp only [mkM, updM_same] at hi; cases hi; exact .inl ⟨rfl, rfl⟩
    · simp only [mkM, updM_ne _ _ ed] at hi
      rcases hm.get i with ⟨_, h2⟩ | ⟨o, o2, h1, h2, h3, h4⟩
      · rw [h2] at hi; cases hi
      · rw [h2] at hi; cases hi; exact .inr ⟨ed, o, h1, h2, h3⟩
  have hLL : ∀ b, LL C (mkM ((d, .arr sz e []) :: ms')) (updV ρ d (.slice none 0 0)) b → LL C (mkM ms) ρ b := by
    rintro b (hb | ⟨i, o', hi, hb⟩)
    · exact .inl hb
    · rcases hmm i o' hi with ⟨rfl, _⟩ | ⟨hne, o, h1, h2, h3⟩
      · rw [updV_same] at hb; cases hb
      · rw [updV_ne _ _ hne] at hb; exact .inr ⟨i, o, h1, hb⟩
  have hTu : ∀ i, i ≠ d → Turns (mkM ms) (mkM ((d, .arr sz e []) :: ms')) ρ (updV ρ d (.slice none 0 0)) i := by
    intro i hne
    have hme : mkM ((d, .arr sz e []) :: ms') i = mkM ms' i := by simp only [mkM, updM_ne _ _ hne]
    rcases hm.get i with ⟨h1, h2⟩ | ⟨o, o', h1, h2, h3, _⟩
    · exact .inl (by rw [hme, h2])
    · refine .inr (.inr ⟨updV_ne _ _ hne, ?_⟩)
      cases h3 with
      | refl => exact .inl (by rw [hme, h2, h1])
      | box h => exact .inr (.inl ⟨_, _, h1, by rw [hme, h2]⟩)
  have hv : ∀ v x, NoId d x → RepA w (LL C (mkM ms) ρ) ρ (mkM ms) v x → RepA w (LL C (mkM ((d, .arr sz e []) :: ms')) (updV ρ d (.slice none 0 0))) (updV ρ d (.slice none 0 0)) (mkM ((d, .arr sz e []) :: ms')) v x := fun v x hx hr =>
    hr.keep (fun b hb _ hb' => hb (hLL b hb')) (fun _ _ _ => rfl) fun i => by
      by_cases ed : i = d
      · subst ed; exact .inl hx
      · exact .inr (hTu i ed)
  have had : ∀ v x y, NoId d x → AdA d x y → RepA w (LL C (mkM ms) ρ) ρ (mkM ms) v x → RepA w (LL C (mkM ((d, .arr sz e []) :: ms')) (updV ρ d (.slice none 0 0))) (updV ρ d (.slice none 0 0)) (mkM ((d, .arr sz e []) :: ms')) v y := by
    intro v x y hx ha hr
    cases ha with
    | refl => exact hv v x hx hr
    | nil =>
      rw [hr.v_inv]
      refine .ms fun sz' e' xs hc => ?_
      simp only [mkM, updM_same] at hc; cases hc
      exact ⟨Nat.le_refl _, fun _ => (updV_same _ _ _).symm⟩
  refine ⟨hs.keep, hs.old, hs.size, hs.defers, fun i o' hi => ?_, fun i o' b hi hb => ?_, fun i j oi oj b hi hj hbi hbj => ?_, fun j => had _ _ _ (hn1 j) (ht.get j) (hs.tmp j), fun i hi => (updV_ne _ _ (by omega)).trans (hs.fix i hi)⟩
  · rcases hmm i o' hi with ⟨rfl, rfl⟩ | ⟨hne, o, h1, h2, h3⟩
    · rw [updV_same]
      exact ⟨h0, [], ⟨by simp, .inl ⟨rfl, rfl⟩⟩, fun k x hk => by simp at hk⟩
    · rw [updV_ne _ _ hne]
      have ho := hs.obj i o h1
      have hno := hn2 i o h1
      cases h3 with
      | refl =>
        refine ho.keep (fun b hb _ hb' => hb (hLL b hb')) (fun _ _ _ => rfl) (fun _ _ => rfl) fun k => ?_
        by_cases ed : k = d
        · subst ed; exact .inl hno
        · exact .inr (hTu k ed)
      | box hc =>
        obtain ⟨b, cs, ty, h4, h5, h6, h7⟩ := ho
        obtain ⟨hl, hc⟩ := hc.get
        refine ⟨b, cs, ty, h4, h5, by omega, fun j y hy => ?_⟩
        have hj := (List.getElem?_eq_some_iff.1 hy).1
        rw [← hl] at hj
        exact had _ _ y (hno j _ (List.getElem?_eq_getElem hj)) (hc j _ y (List.getElem?_eq_getElem hj) hy) (h7 j _ (List.getElem?_eq_getElem hj))
  · rcases hmm i o' hi with ⟨rfl, _⟩ | ⟨hne, o, h1, h2, h3⟩
    · rw [updV_same] at hb; cases hb
    · rw [updV_ne _ _ hne] at hb; exact hs.own i o b h1 hb
  · rcases hmm i oi hi with ⟨rfl, _⟩ | ⟨hne, o, h1, _⟩
    · rw [updV_same] at hbi; cases hbi
    · rcases hmm j oj hj with ⟨rfl, _⟩ | ⟨hne', o', h1', _⟩
      · rw [updV_same] at hbj; cases hbj
      · rw [updV_ne _ _ hne] at hbi; rw [updV_ne _ _ hne'] at hbj
        exact hs.inj i j o o' b h1 h1' hbi hbj
/-! rows of the call's own -/
section
variable {α : Type} {G : Elt α}
theorem lnM {t : TypeId} {x : Operand} {i n e e' : Nat} {l : List α} {d : TD} (hx : ev x = .ms i n) (hm : m i = some (.arr G.sz e' (l.map G.g))) (hn : l.length = n) (ht : E.Ty t = some d) (hd : d.desc = .slice e) :
    StepV E m ev (.call { callee := .builtin .len, args := #[x], argTypes := #[t] }) (.c (.v (.int .i64 n))) [i] := .lenM hx hm (by simpa using hn) ht hd
theorem ixM {t : TypeId} {x ix : Operand} {i n0 e e' : Nat} {l : List α} {k : IntKind} {n : Int} {d de : TD} (hx : ev x = .ms i n0) (hm : m i = some (.arr G.sz e' (l.map G.g))) (hn : l.length = n0)
    (hi : ev ix = .c (.v (.int k n))) (h0 : 0 ≤ n) (hlt : n < n0) (ht : E.Ty t = some d) (hd : d.desc = .slice e) (he : E.Ty e = some de) (hs : de.sz = G.sz) : StepV E m ev (.indexAddr t x ix) (.el i n0 G.sz n.toNat 0) [i] :=
  .idxM hx hm (by simpa using hn) hi h0 hlt ht hd he hs
/-- A one-cell element is read, is written. -/
theorem ldM {t : TypeId} {x : Operand} {i n sz k e : Nat} {l : List α} {a : α} {y : CV} {d : TD} (hx : ev x = .el i n sz k 0) (hm : m i = some (.arr G.sz e (l.map G.g))) (hn : l.length = n) (hk : l[k]? = some a) (hc : (G.g a).cells[0]? = some y) (hs : sz = G.sz)
    (ht : E.Ty t = some d) (hd : aggD d.desc = false) : StepV E m ev (.load t x) (.c y) [i] := by
  subst hs; exact .loadE hx hm (by simpa using hn) (gy hk) ht hd hc
theorem stM {t : TypeId} {x y : Operand} {i n sz k e : Nat} {l : List α} {b : α} {z : CV} {d : TD} (hx : ev x = .el i n sz k 0) (hm : m i = some (.arr G.sz e (l.map G.g))) (hn : l.length = n) (hk : k < n) (hy : ev y = .c z) (hz : (G.g b).cells = [z]) (ha : z.atom = true) (h1 : Nat.beq G.sz 1 = true) (hs : sz = G.sz)
    (ht : E.Ty t = some d) (hd : Nat.beq d.sz 1 = true) : StepR E m ev none (.store t x y) .any [(i, some (.arr G.sz e ((l.set k b).map G.g)))] [i] [] := by
  subst hs
  have h1 := Nat.eq_of_beq_eq_true h1
  have hd := Nat.eq_of_beq_eq_true hd
  have hkl : k < l.length := by omega
  have hg := gy (G := G) (List.getElem?_eq_getElem hkl)
  have hcl : (G.g l[k]).cells.length = 1 := by rw [G.len, h1]
  have h1c : CV.one z = true := G.one b z (by rw [hz]; simp)
  have hzz : z.cells = [z] := by cases z <;> first | rfl | simp [CV.atom] at ha
  have hcells : Cells m (ev y) [.c z] [] := by
    rw [hy]
    cases z with
    | v u => exact .one (.v (by simpa [CV.one] using h1c))
    | fl b => exact .one (.fl b)
    | sl sz xs => simp [CV.atom] at ha
    | ad cs => simp [CV.atom] at ha
    | agg cs => simp [CV.atom] at ha
    | fn f cs => simp [CV.atom] at ha
  have := StepR.storeE (E := E) (x1 := G.g b) (zs := [z]) hx hm (by simpa using hn) hg ht hcells (.cons (.c (.refl _)) .nil) (by simp [h1c]) (by simp [hd]) (by rw [hcl]; omega) (by rw [hz, List.take_zero, List.drop_eq_nil_of_le (by rw [hcl]; simp)]; rfl)
  rwa [← List.map_set] at this
theorem mkI {d : Tmp} {t : TypeId} {x y : Operand} {e : Nat} {k k' q : IntKind} {n c : Nat} {td de : TD} (hx : ev x = .c (.v (.int k n))) (hy : ev y = .c (.v (.int k' c))) (hnc : n ≤ c) (ht : E.Ty t = some td) (hd : td.desc = .slice e) (he : E.Ty e = some de)
    (hz : de.zero = [.int q 0]) (hs : de.sz = 1) (hb8 : Nat.ble de.bytes 8 = true) (hc : c ≤ 1000000000) :
    StepR E m ev (some d) (.makeSlice t x y) (.ms d n) [(d, some (.arr 1 e ((List.replicate n (0 : Int)).map (GI q).g)))] [] [d] := by
  have h8 := Nat.le_of_ble_eq_true hb8
  have h9 : c * de.bytes ≤ 1000000000 * 8 := Nat.mul_le_mul hc h8
  have := StepR.mkM (E := E) (m := m) (d := d) hx hy hnc ht hd he hz hs (by omega) (by omega)
  rwa [show (List.replicate n (CV.v (.int q 0))) = (List.replicate n (0 : Int)).map (GI q).g by rw [List.map_replicate]; rfl] at this
end
/-- A list that is written out, as a row of the call's own. -/
theorem bsMV {d : Tmp} {t : TypeId} {e n : Nat} {ps : List (Nat × Operand)} {vs : List V} {td de : TD} (hx : ToVs (ps.map fun p => ev p.2) vs) (ht : E.Ty t = some td) (hd : td.desc = .slice e) (he : E.Ty e = some de) (hs : de.sz = 5)
    (hn : n = vs.length) (hi : ps.map (·.1) = List.range n) (hb : Nat.ble n 1000 = true) : StepR E m ev (some d) (.buildSlice t n ⟨ps⟩) (.ms d n) [(d, some (.arr 5 e (vs.map V.cv)))] [] [d] := by
  subst hn
  have := StepR.bsM (E := E) (m := m) (ev := ev) (t := t) (d := d) (parts := ⟨ps⟩) (xs := vs.map V.cv) ht hd he hs rfl (by simpa using hi) hx.cs (fun x hx => by
    obtain ⟨v, _, rfl⟩ := List.mem_map.1 hx; exact ⟨V.cells_len v, V.plain v⟩) (by have := Nat.le_of_ble_eq_true hb; simp; omega)
  simpa using this
theorem rr {op : Op} {v : AV} {mw : List (Nat × Option Ob)} {R F : List Nat} (h : StepR E m ev dst op v mw R F := by
  first | (· (first | exact .nilL rfl rfl | exact .nilE rfl rfl (by first | rfl | assumption | (simp; assumption)) | exact mnI rfl rfl | exact mxI rfl rfl | exact quI rfl rfl rfl | exact .idxL rfl rfl rfl (by decide) (by decide) rfl rfl rfl | exact bA2 rfl rfl rfl rfl rfl rfl rfl | exact .eqNL (.inl rfl) rfl rfl rfl rfl rfl | exact .eqNL (.inr rfl) rfl rfl rfl rfl rfl)) | fail) : StepR E m ev dst op v mw R F := h
end
end Go.AM
