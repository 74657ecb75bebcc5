/- Walks: numbers of calls compared; names; calls cleaned, compared. -/
import Derived.Test.YtcmldokgjbmbdaaF9
import Derived.Test.YtcmldokgjbmbdaaP3
import Derived.Laws.StructEq
namespace Go.Proofs.Ytcmldokgjbmbdaa
open Go Go.AM
set_option linter.unusedVariables false
set_option maxHeartbeats 4000000
set_option maxRecDepth 100000
set_option linter.unusedSimpArgs false

/-! two numbers of calls are the same -/
theorem part_s {E : Env} {t : Nat} {d : TD} (ht : E.Ty t = some d) (hd : aggD d.desc = false) {cs : Array Value} {o : Nat} {v : Value} (hv : cs[o]? = some v) (w : World) : (part t cs o).run E.P w = .ok v w := by
  simp [part, Env.agg ht, hd, hv]
theorem run_eqI (w : World) (a b : IdS) : (Op.equalIn 10000 29 (.agg #[.int .u32 a.c, .int .u32 a.s, .int .u16 a.n]) (.agg #[.int .u32 b.c, .int .u32 b.s, .int .u16 b.n])).run env.P w = .ok (idEq a b) w := by
  have hu : env.P.underlying 29 = some (.struct (env.P.fieldsOf 29)) := by kernel_rfl
  have h25 : env.P.underlying 25 = some (.int .u32) := by kernel_rfl
  have h27 : env.P.underlying 27 = some (.int .u16) := by kernel_rfl
  rw [run_equalIn_agg w 9999 29 _ _ hu (by kernel_rfl)]
  have hf : (env.P.fieldsOf 29).toList.map (fun f => (f.name, f.type, f.offset)) = [("Client", 25, 0), ("Seq", 25, 1), ("Nest", 27, 2)] := by kernel_rfl
  generalize (env.P.fieldsOf 29).toList = fs at hf
  have hfl : fs.length = 3 := by have := congrArg List.length hf; simpa using this
  match fs, hfl, hf with
  | [f0, f1, f2], _, hf =>
    simp only [List.map_cons, List.map_nil, List.cons.injEq, Prod.mk.injEq, and_true] at hf
    obtain ⟨⟨n0, t0, o0⟩, ⟨n1, t1, o1⟩, n2, t2, o2⟩ := hf
    have p0 : ∀ x y z : Value, (part 25 #[x, y, z] 0).run env.P w = .ok x w := fun x y z => part_s (E := env) rfl rfl rfl w
    have p1 : ∀ x y z : Value, (part 25 #[x, y, z] 1).run env.P w = .ok y w := fun x y z => part_s (E := env) rfl rfl rfl w
    have p2 : ∀ x y z : Value, (part 27 #[x, y, z] 2).run env.P w = .ok z w := fun x y z => part_s (E := env) rfl rfl rfl w
    have q0 := run_equalIn_int (P := env.P) w 9998 25 .u32 .u32 a.c b.c h25
    have q1 := run_equalIn_int (P := env.P) w 9998 25 .u32 .u32 a.s b.s h25
    have q2 := run_equalIn_int (P := env.P) w 9998 27 .u16 .u16 a.n b.n h27
    have m0 : f0.name ≠ "_" := by rw [n0]; decide
    have m1 : f1.name ≠ "_" := by rw [n1]; decide
    have m2 : f2.name ≠ "_" := by rw [n2]; decide
    unfold Op.eqFields
    rw [if_pos m0]
    simp only [t0, o0, Sem.run_bind, p0, Result.andThen_ok, q0]
    unfold idEq
    cases h0 : (a.c == b.c)
    · simp
    · simp only [Bool.not_true, Bool.false_eq_true, if_false, Bool.true_and]
      unfold Op.eqFields
      rw [if_pos m1]
      simp only [t1, o1, Sem.run_bind, p1, Result.andThen_ok, q1]
      cases h1 : (a.s == b.s)
      · simp
      · simp only [Bool.not_true, Bool.false_eq_true, if_false, Bool.true_and]
        unfold Op.eqFields
        rw [if_pos m2]
        simp only [t2, o2, Sem.run_bind, p2, Result.andThen_ok, q2]
        cases h2 : (a.n == b.n)
        · simp
        · simp [Op.eqFields]
section
variable {m : Nat → Option Ob} {ev : Operand → AV} {dst : Option Tmp}
theorem rep_id {w : World} {L : Nat → Prop} {v : Value} {a : IdS} (h : Rep w L v (.agg a.cc)) : v = .agg #[.int .u32 a.c, .int .u32 a.s, .int .u16 a.n] := by
  cases h with
  | agg hn hx =>
    rename_i vs
    have h3 : vs.length = 3 := hn
    match vs, h3 with
    | [x, y, z], _ =>
      have h0 := (hx 0 _ rfl).v_inv
      have h1 := (hx 1 _ rfl).v_inv
      have h2 := (hx 2 _ rfl).v_inv
      simp at h0 h1 h2
      subst h0; subst h1; subst h2; rfl
/-- == of two numbers of calls. -/
theorem eqI {t : TypeId} {x y : Operand} (a b : IdS) (hx : ToC (ev x) (.agg a.cc)) (hy : ToC (ev y) (.agg b.cc)) : StepR env m ev dst (.binOp .eql 29 x y t) (.c (.v (.bool (idEq a b)))) [] [] [] :=
  .runC [(x, .agg a.cc), (y, .agg b.cc)] (by simp [hx, hy, Op.operands]) fun w L eval o hL ho h => by
    have h1 := rep_id (h (x, .agg a.cc) (by simp))
    have h2 := rep_id (h (y, .agg b.cc) (by simp))
    simp only at h1 h2
    refine ⟨.bool (idEq a b), w, ?_, Keep.refl _ w, .v _⟩
    simp only [execOp, ho, h1, h2, Sem.run_bind, run_eqGuard_agg w .eql 29 x y _ _ (show env.P.eqGuardType env.P.depth 29 = false by kernel_rfl), Result.andThen_ok, run_eql_struct, run_eqI, Sem.run_pure]
theorem neI {t : TypeId} {x y : Operand} (a b : IdS) (hx : ToC (ev x) (.agg a.cc)) (hy : ToC (ev y) (.agg b.cc)) : StepR env m ev dst (.binOp .neq 29 x y t) (.c (.v (.bool (!idEq a b)))) [] [] [] :=
  .runC [(x, .agg a.cc), (y, .agg b.cc)] (by simp [hx, hy, Op.operands]) fun w L eval o hL ho h => by
    have h1 := rep_id (h (x, .agg a.cc) (by simp))
    have h2 := rep_id (h (y, .agg b.cc) (by simp))
    simp only at h1 h2
    refine ⟨.bool (!idEq a b), w, ?_, Keep.refl _ w, .v _⟩
    simp only [execOp, ho, h1, h2, Sem.run_bind, run_eqGuard_agg w .neq 29 x y _ _ (show env.P.eqGuardType env.P.depth 29 = false by kernel_rfl), Result.andThen_ok, run_neq_struct, run_eqI, Sem.run_pure]
theorem toI {x : AV} {a : IdS} (h : x = .c (.agg a.cc) ∨ x = .agg a.ca) : ToC x (.agg a.cc) := by
  rcases h with rfl | rfl
  · exact .c (.refl _)
  · exact .aggs (.cons (.c (.refl _)) (.cons (.c (.refl _)) (.cons (.c (.refl _)) .nil)))
end

/-! names, values -/
theorem name_c (s : ByteArray) : Pure env.P 23 [.v (.string s)] [.v (.bool (nameS s))] := by
  refine Pure.go (E := env) Try.func23 rfl rfl rfl (Nat.le_of_ble_eq_true rfl) (Nat.le_of_ble_eq_true rfl) ?_; rintro ⟨w0, T0, L0, n, r0, hn0, hT0⟩ hn hT hU; obtain rfl : n = _ := hn
  unfold nameS
  cases h1 : !(s.toList == s0.toList)
  · (repeat' (first | refine CQ.seq ?_ | refine CQ.block ?_ | ((first | apply CQ.rT hU | apply CQ.rD hU); (· (repeat (first | exact RunL.nil | (apply RunL.op; (first | ((first | apply sv | (apply gv; (· rfl); (· rfl)) | (apply gvB; (· rfl); (· rfl); (· assumption))); (first | exact vv)) | exact gn rfl rfl rfl | exact gnU rfl rfl | exact gnB rfl rfl (by assumption) rfl | exact so oo | exact gR rfl rfl oo | exact so rr | exact gR rfl rfl rr | exact gRB rfl rfl (by assumption) oo | exact gRB rfl rfl (by assumption) rr))))); (· kernel_rfl); clear hU; intro hU) | refine CQ.condT rfl ?_ | refine CQ.condF rfl ?_ | refine CQ.condT (hbl ‹_›) ?_ | refine CQ.condF (hbl ‹_›) ?_ | refine CQ.ret ?_ | refine CQ.skip ?_ | refine CQ.exit ?_ | (apply CQ.cond rfl <;> intro hb)))
    (repeat' (first | (apply retC; (first | (apply RetA.tmp; (repeat' (first | exact rfl | exact wE rfl rfl | exact wNV rfl | exact wLV rfl | exact wMs rfl rfl rfl rfl rfl | exact wCv rfl rfl | exact wCv' rfl rfl | exact wNil rfl rfl | exact wF rfl (LeC.fl _) | exact wF rfl (LeC.refl _) | apply wV5 rfl | apply wCv rfl | apply wCv' rfl | apply wE rfl | apply wMs rfl rfl rfl rfl | refine wMs rfl rfl ?_ rfl ?_))) | (apply RetA.cellS rfl rfl rfl rfl rfl; (repeat' (first | exact rfl | exact wE rfl rfl | exact wNV rfl | exact wLV rfl | exact wMs rfl rfl rfl rfl rfl | exact wCv rfl rfl | exact wCv' rfl rfl | exact wNil rfl rfl | exact wF rfl (LeC.fl _) | exact wF rfl (LeC.refl _) | apply wV5 rfl | apply wCv rfl | apply wCv' rfl | apply wE rfl | apply wMs rfl rfl rfl rfl | refine wMs rfl rfl ?_ rfl ?_))) | (apply RetA.cellW rfl rfl rfl rfl rfl; (repeat' (first | exact rfl | exact wE rfl rfl | exact wNV rfl | exact wLV rfl | exact wMs rfl rfl rfl rfl rfl | exact wCv rfl rfl | exact wCv' rfl rfl | exact wNil rfl rfl | exact wF rfl (LeC.fl _) | exact wF rfl (LeC.refl _) | apply wV5 rfl | apply wCv rfl | apply wCv' rfl | apply wE rfl | apply wMs rfl rfl rfl rfl | refine wMs rfl rfl ?_ rfl ?_))))) | exact retN))
  · (repeat' (first | refine CQ.seq ?_ | refine CQ.block ?_ | ((first | apply CQ.rT hU | apply CQ.rD hU); (· (repeat (first | exact RunL.nil | (apply RunL.op; (first | ((first | apply sv | (apply gv; (· rfl); (· rfl)) | (apply gvB; (· rfl); (· rfl); (· assumption))); (first | exact vv)) | exact gn rfl rfl rfl | exact gnU rfl rfl | exact gnB rfl rfl (by assumption) rfl | exact so oo | exact gR rfl rfl oo | exact so rr | exact gR rfl rfl rr | exact gRB rfl rfl (by assumption) oo | exact gRB rfl rfl (by assumption) rr))))); (· kernel_rfl); clear hU; intro hU) | refine CQ.condT rfl ?_ | refine CQ.condF rfl ?_ | refine CQ.condT (hbl ‹_›) ?_ | refine CQ.condF (hbl ‹_›) ?_ | refine CQ.ret ?_ | refine CQ.skip ?_ | refine CQ.exit ?_ | (apply CQ.cond rfl <;> intro hb)))
    (repeat' (first | (apply retC; (first | (apply RetA.tmp; (repeat' (first | exact rfl | exact wE rfl rfl | exact wNV rfl | exact wLV rfl | exact wMs rfl rfl rfl rfl rfl | exact wCv rfl rfl | exact wCv' rfl rfl | exact wNil rfl rfl | exact wF rfl (LeC.fl _) | exact wF rfl (LeC.refl _) | apply wV5 rfl | apply wCv rfl | apply wCv' rfl | apply wE rfl | apply wMs rfl rfl rfl rfl | refine wMs rfl rfl ?_ rfl ?_))) | (apply RetA.cellS rfl rfl rfl rfl rfl; (repeat' (first | exact rfl | exact wE rfl rfl | exact wNV rfl | exact wLV rfl | exact wMs rfl rfl rfl rfl rfl | exact wCv rfl rfl | exact wCv' rfl rfl | exact wNil rfl rfl | exact wF rfl (LeC.fl _) | exact wF rfl (LeC.refl _) | apply wV5 rfl | apply wCv rfl | apply wCv' rfl | apply wE rfl | apply wMs rfl rfl rfl rfl | refine wMs rfl rfl ?_ rfl ?_))) | (apply RetA.cellW rfl rfl rfl rfl rfl; (repeat' (first | exact rfl | exact wE rfl rfl | exact wNV rfl | exact wLV rfl | exact wMs rfl rfl rfl rfl rfl | exact wCv rfl rfl | exact wCv' rfl rfl | exact wNil rfl rfl | exact wF rfl (LeC.fl _) | exact wF rfl (LeC.refl _) | apply wV5 rfl | apply wCv rfl | apply wCv' rfl | apply wE rfl | apply wMs rfl rfl rfl rfl | refine wMs rfl rfl ?_ rfl ?_))))) | exact retN))
theorem wrong_c (v : V) : Pure env.P 25 [v.cv] [.v (.bool (checkS v != 0))] := by
  refine Pure.go (E := env) Try.func25 rfl rfl rfl (Nat.le_of_ble_eq_true rfl) (Nat.le_of_ble_eq_true rfl) ?_; rintro ⟨w0, T0, L0, n, r0, hn0, hT0⟩ hn hT hU; obtain rfl : n = _ := hn
  have hc := check_c v
  (repeat' (first | refine CQ.seq ?_ | refine CQ.block ?_ | ((first | apply CQ.rT hU | apply CQ.rD hU); (· (repeat (first | exact RunL.nil | (apply RunL.op; (first | ((first | apply sv | (apply gv; (· rfl); (· rfl)) | (apply gvB; (· rfl); (· rfl); (· assumption))); (first | exact .callP rfl rfl ta (hc) | exact vv)) | exact gn rfl rfl rfl | exact gnU rfl rfl | exact gnB rfl rfl (by assumption) rfl | exact so oo | exact gR rfl rfl oo | exact so rr | exact gR rfl rfl rr | exact gRB rfl rfl (by assumption) oo | exact gRB rfl rfl (by assumption) rr))))); (· kernel_rfl); clear hU; intro hU) | refine CQ.condT rfl ?_ | refine CQ.condF rfl ?_ | refine CQ.condT (hbl ‹_›) ?_ | refine CQ.condF (hbl ‹_›) ?_ | refine CQ.ret ?_ | refine CQ.skip ?_ | refine CQ.exit ?_ | (apply CQ.cond rfl <;> intro hb)))
  (repeat' (first | (apply retC; (first | (apply RetA.tmp; (repeat' (first | exact rfl | exact wE rfl rfl | exact wNV rfl | exact wLV rfl | exact wMs rfl rfl rfl rfl rfl | exact wCv rfl rfl | exact wCv' rfl rfl | exact wNil rfl rfl | exact wF rfl (LeC.fl _) | exact wF rfl (LeC.refl _) | apply wV5 rfl | apply wCv rfl | apply wCv' rfl | apply wE rfl | apply wMs rfl rfl rfl rfl | refine wMs rfl rfl ?_ rfl ?_))) | (apply RetA.cellS rfl rfl rfl rfl rfl; (repeat' (first | exact rfl | exact wE rfl rfl | exact wNV rfl | exact wLV rfl | exact wMs rfl rfl rfl rfl rfl | exact wCv rfl rfl | exact wCv' rfl rfl | exact wNil rfl rfl | exact wF rfl (LeC.fl _) | exact wF rfl (LeC.refl _) | apply wV5 rfl | apply wCv rfl | apply wCv' rfl | apply wE rfl | apply wMs rfl rfl rfl rfl | refine wMs rfl rfl ?_ rfl ?_))) | (apply RetA.cellW rfl rfl rfl rfl rfl; (repeat' (first | exact rfl | exact wE rfl rfl | exact wNV rfl | exact wLV rfl | exact wMs rfl rfl rfl rfl rfl | exact wCv rfl rfl | exact wCv' rfl rfl | exact wNil rfl rfl | exact wF rfl (LeC.fl _) | exact wF rfl (LeC.refl _) | apply wV5 rfl | apply wCv rfl | apply wCv' rfl | apply wE rfl | apply wMs rfl rfl rfl rfl | refine wMs rfl rfl ?_ rfl ?_))))) | exact retN))
theorem anyWrong_c (l : List V) : Pure env.P 24 [.sl 5 (l.map V.cv), .fn 25 []] [.v (.bool (l.any fun v => checkS v != 0))] :=
  contains_c l 25 [] _ fun x _ => wrong_c x
/-- What is handed back whole, part by part. -/
inductive WkLC (m m' : Nat → Option Ob) : List AV → List CV → Prop where
  | nil : WkLC m m' [] []
  | cons {x : AV} {y : CV} {xs : List AV} {ys : List CV} (h : WkA m m' x (.c y)) (hs : WkLC m m' xs ys) : WkLC m m' (x :: xs) (y :: ys)
theorem WkLC.get {m m' : Nat → Option Ob} {xs : List AV} {ys : List CV} (h : WkLC m m' xs ys) : xs.length = ys.length ∧ ∀ (j : Nat) (x : AV) (y : CV), xs[j]? = some x → ys[j]? = some y → WkA m m' x (.c y) := by
  induction h with
  | nil => exact ⟨rfl, fun j x y hx => by simp at hx⟩
  | cons h hs ih =>
    refine ⟨by simp [ih.1], fun j x y hx hy => ?_⟩
    cases j with
    | zero => simp at hx hy; subst hx; subst hy; exact h
    | succ j => exact ih.2 j x y (by simpa using hx) (by simpa using hy)
theorem wAC {m m' : Nat → Option Ob} {x : AV} {xs : List AV} {ys : List CV} (hx : x = .agg xs) (h : WkLC m m' xs ys) : WkA m m' x (.c (.agg ys)) := by rw [hx]; exact .aggC h.get.1 h.get.2
theorem opNew_c (o : OpS) (hs : o.a.all smallS = true) (hl : o.a.length ≤ 1000) : Pure env.P 26 [.agg o.cc] [.agg (OpS.cc ⟨o.id, o.g, o.m, o.a.map cleanS⟩)] := by
  obtain ⟨⟨c, q, n⟩, g, m, a⟩ := o
  simp only at hs hl
  rw [List.all_eq_true] at hs
  refine Pure.go (E := env) Try.func26 rfl rfl rfl (Nat.le_of_ble_eq_true rfl) (Nat.le_of_ble_eq_true rfl) ?_; rintro ⟨w0, T0, L0, n, r0, hn0, hT0⟩ hn hT hU; obtain rfl : n = _ := hn
  (repeat' (first | refine CQ.seq ?_ | refine CQ.block ?_ | ((first | apply CQ.rT hU | apply CQ.rD hU); (· (repeat (first | exact RunL.nil | (apply RunL.op; (first | ((first | apply sv | (apply gv; (· rfl); (· rfl)) | (apply gvB; (· rfl); (· rfl); (· assumption))); (first | exact (.loadLA rfl rfl rfl rfl (Nat.le_of_ble_eq_true rfl)) | exact vv)) | exact gn rfl rfl rfl | exact gnU rfl rfl | exact gnB rfl rfl (by assumption) rfl | exact so oo | exact gR rfl rfl oo | exact so rr | exact gR rfl rfl rr | exact gRB rfl rfl (by assumption) oo | exact gRB rfl rfl (by assumption) rr))))); (· kernel_rfl); clear hU; intro hU) | refine CQ.condT rfl ?_ | refine CQ.condF rfl ?_ | refine CQ.condT (hbl ‹_›) ?_ | refine CQ.condF (hbl ‹_›) ?_ | refine CQ.ret ?_ | refine CQ.skip ?_ | refine CQ.exit ?_ | (apply CQ.cond rfl <;> intro hb)))
  refine CQ.loop hT (fun k : Nat => match k with
    | 0 => ⟨mkT [(2, .loc 2 0), (3, .loc 3 0), (14, .c (.sl 5 (a.map V.cv))), (15, .c (.v (.int .i64 a.length))), (16, .c (.v (.int .i64 0)))], mkM [(2, .box (td62.zero.map fun z => .c (.v z))), (3, .box [.c (.v (.int .u32 c)), .c (.v (.int .u32 q)), .c (.v (.int .u16 n)), .c (.v (.string g)), .c (.v (.string m)), .c (.v (.slice none 0 0))])]⟩
    | k + 1 => ⟨mkT [(2, .loc 2 0), (3, .loc 3 0), (14, .c (.sl 5 (a.map V.cv))), (15, .c (.v (.int .i64 a.length))), (16, .c (.v (.int .i64 ((k + 1 : Nat) : Int))))], mkM [(2, .box (td62.zero.map fun z => .c (.v z))), (3, .box [.c (.v (.int .u32 c)), .c (.v (.int .u32 q)), .c (.v (.int .u16 n)), .c (.v (.string g)), .c (.v (.string m)), .ms 25 (k + 1)]), (25, .arr 5 37 (((a.take (k + 1)).map cleanS).map V.cv))]⟩)
    (fun k => k ≤ a.length) (fun k => a.length - k) 0 (Nat.zero_le _) ?_ ?_
  · (refine wkS ?_ ?_; (all_goals (repeat' (first | exact wkB | refine wkP ?_ ?_ | exact wkMB | refine wkMP rfl ?_ ?_ | exact wkOr rfl | exact wkB0 | refine wkBx ?_ ?_ | refine wkOa ?_ | exact wr rfl | exact wE rfl rfl | exact wNV rfl | exact wLV rfl | exact wMs rfl rfl rfl rfl rfl | exact wCv rfl rfl | exact wCv' rfl rfl | exact wNil rfl rfl | exact wF rfl (LeC.fl _) | apply wV5 rfl | apply wCv rfl | apply wCv' rfl | apply wE rfl | apply wMs rfl rfl rfl rfl | refine wMs rfl rfl ?_ rfl ?_))))
  clear hU
  rintro (_ | k) hk
  · have hU : Fresh [2, 3] ⟨mkT [(2, .loc 2 0), (3, .loc 3 0), (14, .c (.sl 5 (a.map V.cv))), (15, .c (.v (.int .i64 a.length))), (16, .c (.v (.int .i64 0)))], mkM [(2, .box (td62.zero.map fun z => .c (.v z))), (3, .box [.c (.v (.int .u32 c)), .c (.v (.int .u32 q)), .c (.v (.int .u16 n)), .c (.v (.string g)), .c (.v (.string m)), .c (.v (.slice none 0 0))])]⟩ := by exact fr
    cases hb : decide ((0 : Int) < (a.length : Int))
    · have hnil : a = [] := by simpa using hb
      subst hnil
      (repeat' (first | refine CQ.seq ?_ | refine CQ.block ?_ | ((first | apply CQ.rT hU | apply CQ.rD hU); (· (repeat (first | exact RunL.nil | (apply RunL.op; (first | ((first | apply sv | (apply gv; (· rfl); (· rfl)) | (apply gvB; (· rfl); (· rfl); (· assumption))); (first | exact vv)) | exact gn rfl rfl rfl | exact gnU rfl rfl | exact gnB rfl rfl (by assumption) rfl | exact so oo | exact gR rfl rfl oo | exact so rr | exact gR rfl rfl rr | exact gRB rfl rfl (by assumption) oo | exact gRB rfl rfl (by assumption) rr))))); (· kernel_rfl); clear hU; intro hU) | refine CQ.condT rfl ?_ | refine CQ.condF rfl ?_ | refine CQ.condT (hbl ‹_›) ?_ | refine CQ.condF (hbl ‹_›) ?_ | refine CQ.ret ?_ | refine CQ.skip ?_ | refine CQ.exit ?_ | (apply CQ.cond rfl <;> intro hb)))
      (repeat' (first | (apply retC; (first | (apply RetA.tmp; (repeat' (first | exact rfl | exact wE rfl rfl | exact wNV rfl | exact wLV rfl | exact wMs rfl rfl rfl rfl rfl | exact wCv rfl rfl | exact wCv' rfl rfl | exact wNil rfl rfl | exact wF rfl (LeC.fl _) | exact wF rfl (LeC.refl _) | apply wV5 rfl | apply wCv rfl | apply wCv' rfl | apply wE rfl | apply wMs rfl rfl rfl rfl | refine wMs rfl rfl ?_ rfl ?_))) | (apply RetA.cellS rfl rfl rfl rfl rfl; (repeat' (first | exact rfl | exact wE rfl rfl | exact wNV rfl | exact wLV rfl | exact wMs rfl rfl rfl rfl rfl | exact wCv rfl rfl | exact wCv' rfl rfl | exact wNil rfl rfl | exact wF rfl (LeC.fl _) | exact wF rfl (LeC.refl _) | apply wV5 rfl | apply wCv rfl | apply wCv' rfl | apply wE rfl | apply wMs rfl rfl rfl rfl | refine wMs rfl rfl ?_ rfl ?_))) | (apply RetA.cellW rfl rfl rfl rfl rfl; (repeat' (first | exact rfl | exact wE rfl rfl | exact wNV rfl | exact wLV rfl | exact wMs rfl rfl rfl rfl rfl | exact wCv rfl rfl | exact wCv' rfl rfl | exact wNil rfl rfl | exact wF rfl (LeC.fl _) | exact wF rfl (LeC.refl _) | apply wV5 rfl | apply wCv rfl | apply wCv' rfl | apply wE rfl | apply wMs rfl rfl rfl rfl | refine wMs rfl rfl ?_ rfl ?_))))) | exact retN))
      exact wAC rfl (.cons (.refl _) (.cons (.refl _) (.cons (.refl _) (.cons (.refl _) (.cons (.refl _) (.cons (.le (.nil 5 (by decide))) .nil))))))
    · have hk' : 0 < a.length := by simp at hb; omega
      have hy : a[0]? = some a[0] := List.getElem?_eq_getElem hk'
      have ihy := clean_c a[0] (hs _ (List.getElem_mem hk'))
      (repeat' (first | refine CQ.seq ?_ | refine CQ.block ?_ | ((first | apply CQ.rT hU | apply CQ.rD hU); (· (repeat (first | exact RunL.nil | (apply RunL.op; (first | ((first | apply sv | (apply gv; (· rfl); (· rfl)) | (apply gvB; (· rfl); (· rfl); (· assumption))); (first | exact .callP rfl rfl ta (ihy) | exact vv)) | exact gn rfl rfl rfl | exact gnU rfl rfl | exact gnB rfl rfl (by assumption) rfl | exact so oo | exact gR rfl rfl oo | exact so rr | exact gR rfl rfl rr | exact gRB rfl rfl (by assumption) oo | exact gRB rfl rfl (by assumption) rr))))); (· kernel_rfl); clear hU; intro hU) | refine CQ.condT rfl ?_ | refine CQ.condF rfl ?_ | refine CQ.condT (hbl ‹_›) ?_ | refine CQ.condF (hbl ‹_›) ?_ | refine CQ.ret ?_ | refine CQ.skip ?_ | refine CQ.exit ?_ | (apply CQ.cond rfl <;> intro hb)))
      refine ⟨1, hk', by omega, ?_⟩
      (refine wkS ?_ ?_; (all_goals (repeat' (first | exact wkB | refine wkP ?_ ?_ | exact wkMB | refine wkMP rfl ?_ ?_ | exact wkOr rfl | exact wkB0 | refine wkBx ?_ ?_ | refine wkOa ?_ | exact wr rfl | exact wE rfl rfl | exact wNV rfl | exact wLV rfl | exact wMs rfl rfl rfl rfl rfl | exact wCv rfl rfl | exact wCv' rfl rfl | exact wNil rfl rfl | exact wF rfl (LeC.fl _) | apply wV5 rfl | apply wCv rfl | apply wCv' rfl | apply wE rfl | apply wMs rfl rfl rfl rfl | refine wMs rfl rfl ?_ rfl ?_))))
      rw [map_take1 cleanS hy]; rfl
  · have hU : Fresh [2, 3, 25] ⟨mkT [(2, .loc 2 0), (3, .loc 3 0), (14, .c (.sl 5 (a.map V.cv))), (15, .c (.v (.int .i64 a.length))), (16, .c (.v (.int .i64 ((k + 1 : Nat) : Int))))], mkM [(2, .box (td62.zero.map fun z => .c (.v z))), (3, .box [.c (.v (.int .u32 c)), .c (.v (.int .u32 q)), .c (.v (.int .u16 n)), .c (.v (.string g)), .c (.v (.string m)), .ms 25 (k + 1)]), (25, .arr 5 37 (((a.take (k + 1)).map cleanS).map V.cv))]⟩ := by exact fr
    cases hb : decide (((k + 1 : Nat) : Int) < (a.length : Int))
    · have hkl : k + 1 = a.length := by simp at hb; omega
      (repeat' (first | refine CQ.seq ?_ | refine CQ.block ?_ | ((first | apply CQ.rT hU | apply CQ.rD hU); (· (repeat (first | exact RunL.nil | (apply RunL.op; (first | ((first | apply sv | (apply gv; (· rfl); (· rfl)) | (apply gvB; (· rfl); (· rfl); (· assumption))); (first | exact vv)) | exact gn rfl rfl rfl | exact gnU rfl rfl | exact gnB rfl rfl (by assumption) rfl | exact so oo | exact gR rfl rfl oo | exact so rr | exact gR rfl rfl rr | exact gRB rfl rfl (by assumption) oo | exact gRB rfl rfl (by assumption) rr))))); (· kernel_rfl); clear hU; intro hU) | refine CQ.condT rfl ?_ | refine CQ.condF rfl ?_ | refine CQ.condT (hbl ‹_›) ?_ | refine CQ.condF (hbl ‹_›) ?_ | refine CQ.ret ?_ | refine CQ.skip ?_ | refine CQ.exit ?_ | (apply CQ.cond rfl <;> intro hb)))
      (repeat' (first | (apply retC; (first | (apply RetA.tmp; (repeat' (first | exact rfl | exact wE rfl rfl | exact wNV rfl | exact wLV rfl | exact wMs rfl rfl rfl rfl rfl | exact wCv rfl rfl | exact wCv' rfl rfl | exact wNil rfl rfl | exact wF rfl (LeC.fl _) | exact wF rfl (LeC.refl _) | apply wV5 rfl | apply wCv rfl | apply wCv' rfl | apply wE rfl | apply wMs rfl rfl rfl rfl | refine wMs rfl rfl ?_ rfl ?_))) | (apply RetA.cellS rfl rfl rfl rfl rfl; (repeat' (first | exact rfl | exact wE rfl rfl | exact wNV rfl | exact wLV rfl | exact wMs rfl rfl rfl rfl rfl | exact wCv rfl rfl | exact wCv' rfl rfl | exact wNil rfl rfl | exact wF rfl (LeC.fl _) | exact wF rfl (LeC.refl _) | apply wV5 rfl | apply wCv rfl | apply wCv' rfl | apply wE rfl | apply wMs rfl rfl rfl rfl | refine wMs rfl rfl ?_ rfl ?_))) | (apply RetA.cellW rfl rfl rfl rfl rfl; (repeat' (first | exact rfl | exact wE rfl rfl | exact wNV rfl | exact wLV rfl | exact wMs rfl rfl rfl rfl rfl | exact wCv rfl rfl | exact wCv' rfl rfl | exact wNil rfl rfl | exact wF rfl (LeC.fl _) | exact wF rfl (LeC.refl _) | apply wV5 rfl | apply wCv rfl | apply wCv' rfl | apply wE rfl | apply wMs rfl rfl rfl rfl | refine wMs rfl rfl ?_ rfl ?_))))) | exact retN))
      exact wAC rfl (.cons (.refl _) (.cons (.refl _) (.cons (.refl _) (.cons (.refl _) (.cons (.refl _) (.cons (wMs rfl rfl (by simp; omega) rfl (by rw [hkl, List.take_length])) .nil))))))
    · have hk' : k + 1 < a.length := by simp at hb; omega
      have hy : a[k + 1]? = some a[k + 1] := List.getElem?_eq_getElem hk'
      have ihy := clean_c a[k + 1] (hs _ (List.getElem_mem hk'))
      have hlk : ((a.take (k + 1)).map cleanS).length = k + 1 := by simp; omega
      (repeat' (first | refine CQ.seq ?_ | refine CQ.block ?_ | ((first | apply CQ.rT hU | apply CQ.rD hU); (· (repeat (first | exact RunL.nil | (apply RunL.op; (first | ((first | apply sv | (apply gv; (· rfl); (· rfl)) | (apply gvB; (· rfl); (· rfl); (· assumption))); (first | exact .callP rfl rfl ta (ihy) | exact vv)) | exact gn rfl rfl rfl | exact gnU rfl rfl | exact gnB rfl rfl (by assumption) rfl | exact so oo | exact gR rfl rfl oo | exact so rr | exact gR rfl rfl rr | exact gRB rfl rfl (by assumption) oo | exact gRB rfl rfl (by assumption) rr))))); (· kernel_rfl); clear hU; intro hU) | refine CQ.condT rfl ?_ | refine CQ.condF rfl ?_ | refine CQ.condT (hbl ‹_›) ?_ | refine CQ.condF (hbl ‹_›) ?_ | refine CQ.ret ?_ | refine CQ.skip ?_ | refine CQ.exit ?_ | (apply CQ.cond rfl <;> intro hb)))
      refine ⟨k + 2, hk', by omega, ?_⟩
      (refine wkS ?_ ?_; (all_goals (repeat' (first | exact wkB | refine wkP ?_ ?_ | exact wkMB | refine wkMP rfl ?_ ?_ | exact wkOr rfl | exact wkB0 | refine wkBx ?_ ?_ | refine wkOa ?_ | exact wr rfl | exact wE rfl rfl | exact wNV rfl | exact wLV rfl | exact wMs rfl rfl rfl rfl rfl | exact wCv rfl rfl | exact wCv' rfl rfl | exact wNil rfl rfl | exact wF rfl (LeC.fl _) | apply wV5 rfl | apply wCv rfl | apply wCv' rfl | apply wE rfl | apply wMs rfl rfl rfl rfl | refine wMs rfl rfl ?_ rfl ?_))))
      · rw [wrap_id (by omega) (by omega)]; rfl
      · rw [map_take1 cleanS hy]
end Go.Proofs.Ytcmldokgjbmbdaa
