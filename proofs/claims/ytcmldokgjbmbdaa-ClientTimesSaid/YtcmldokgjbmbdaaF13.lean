/- Walks: time passes. -/
import Derived.Test.YtcmldokgjbmbdaaF12
namespace Go.Proofs.Ytcmldokgjbmbdaa
open Go Go.AM
set_option linter.unusedVariables false
set_option maxHeartbeats 4000000
set_option maxRecDepth 100000
set_option linter.unusedSimpArgs false

theorem mvE {E : Env} {m : Nat → Option Ob} {ev : Operand → AV} {x : Operand} {i n sz k off : Nat} (hx : ev x = .el i n sz k off) : StepV E m ev (.move x) (.el i n sz k off) [] := hx ▸ .move x
theorem asE {E : Env} {m : Nat → Option Ob} {ev : Operand → AV} {x : Operand} {i n sz k off : Nat} (hx : ev x = .el i n sz k off) : StepV E m ev (.assign x) (.el i n sz k off) [] := hx ▸ .assign x
/-- An element by a number that is no less than nought. -/
theorem ixN {E : Env} {m : Nat → Option Ob} {ev : Operand → AV} {t : TypeId} {x ix : Operand} {i n0 sz e e' j : Nat} {xs : List CV} {k : IntKind} {d de : TD} (hx : ev x = .ms i n0) (hm : m i = some (.arr sz e' xs)) (hn : xs.length = n0)
    (hi : ev ix = .c (.v (.int k ((j : Nat) : Int)))) (hlt : j < n0) (ht : E.Ty t = some d) (hd : d.desc = .slice e) (he : E.Ty e = some de) (hs : de.sz = sz) : StepV E m ev (.indexAddr t x ix) (.el i n0 sz j 0) [i] := by
  have := StepV.idxM (E := E) hx hm hn hi (Int.natCast_nonneg j) (by omega) ht hd he hs
  rwa [Int.toNat_natCast] at this
/-- One cell of an element is written. -/
theorem stX {E : Env} {α : Type} {G : Elt α} {m : Nat → Option Ob} {ev : Operand → AV} {t : TypeId} {x y : Operand} {i n sz k off e : Nat} {l : List α} {a b : α} {z : CV} {d : TD} (hx : ev x = .el i n sz k off) (hm : m i = some (.arr G.sz e (l.map G.g))) (hn : l.length = n) (hk : l[k]? = some a) (hy : ev y = .c z) (ha : z.atom = true) (h1 : z.one = true)
    (hc : (G.g b).cells = (G.g a).cells.set off z) (hoff : Nat.blt off G.sz = true) (hs : sz = G.sz) (ht : E.Ty t = some d) (hd : Nat.beq d.sz 1 = true) : StepR E m ev none (.store t x y) .any [(i, some (.arr G.sz e ((l.set k b).map G.g)))] [i] [] := by
  subst hs
  have hd := Nat.eq_of_beq_eq_true hd
  have hoff := Nat.le_of_ble_eq_true hoff
  have hcells : Cells m (ev y) [.c z] [] := by
    rw [hy]
    cases z with
    | v u => exact .one (.v (by simpa [CV.one] using h1))
    | fl b => exact .one (.fl b)
    | sl sz xs => simp [CV.atom] at ha
    | ad cs => simp [CV.atom] at ha
    | agg cs => simp [CV.atom] at ha
    | fn f cs => simp [CV.atom] at ha
  have := StepR.storeE (E := E) (x1 := G.g b) (zs := [z]) hx hm (by simpa using hn) (gy hk) ht hcells (.cons (.c (.refl _)) .nil) (by simp [h1]) (by simp [hd]) (by rw [G.len]; omega) (by
    rw [hc, List.set_eq_take_append_cons_drop, if_pos (by rw [G.len]; omega)]; simp)
  rwa [← List.map_set] at this
theorem row_at {K os : List OpenS} {i j : Nat} {x : OpenS} (hK : K.length = i) (h : os[j]? = some x) : (K ++ os.drop j)[i]? = some x := by
  rw [List.getElem?_append_right (by omega), hK, Nat.sub_self, List.getElem?_drop, Nat.add_zero, h]
theorem row_set {K os : List OpenS} {i j : Nat} {x : OpenS} (hK : K.length = i) (h : os[j]? = some x) (y : OpenS) : (K ++ os.drop j).set i y = K ++ y :: os.drop (j + 1) := by
  have hj := (List.getElem?_eq_some_iff.1 h).1
  rw [List.set_append_right _ _ (by omega), hK, Nat.sub_self, List.drop_eq_getElem_cons hj, List.set_cons_zero]
theorem row_set2 {K r : List OpenS} {i : Nat} (hK : K.length = i) (x y : OpenS) : (K ++ x :: r).set i y = K ++ y :: r := by
  rw [List.set_append_right _ _ (by omega), hK, Nat.sub_self, List.set_cons_zero]
theorem row_erase {K r : List OpenS} {i : Nat} (hK : K.length = i) (x : OpenS) : (K ++ x :: r).eraseIdx i = K ++ r := by
  rw [List.eraseIdx_append_of_length_le (by omega), hK, Nat.sub_self, List.eraseIdx_cons_zero]
theorem ansR_time (x : OpenS) : ansR (timeR x) = timeR x := by unfold ansR timeR; rw [nil_small.2]
theorem time_toC (x : OpenS) : ToC (.agg [.c (.v (.int .u32 x.o.id.c)), .c (.v (.int .u32 x.o.id.s)), .c (.v (.int .u16 x.o.id.n)), .c (.v (.int .i64 40)), .c (.v (.int .i64 0)), .c (.v (.int .i64 0)), .c (.v (.float .f64 0)), .c (.v (.string ⟨#[]⟩)), .c (.v (.slice none 0 0))]) (.agg (timeR x).cc) :=
  .aggs (.cons (.c (.refl _)) (.cons (.c (.refl _)) (.cons (.c (.refl _)) (.cons (.c (.refl _)) (.cons (.c (.refl _)) (.cons (.c (.refl _)) (.cons (.c (.fl _)) (.cons (.c (.refl _)) (.cons (.c (.nil 5 (by decide))) .nil)))))))))
theorem tick_b (st : St) (n m n' m' : Nat) (hn : st.os.length = n) (hm : st.rs.length = m) (hn' : (tickS st).os.length = n') (hm' : (tickS st).rs.length = m') (hn4 : n ≤ 4) (hm1 : m ≤ 1000) :
    Own env.P 12 [.loc 1000000 0] [(1000000, .box [.c (.v (.int .u32 st.id)), .c (.v (.int .u32 st.seq)), .ms 1000001 n, .ms 1000002 m]), (1000001, .arr 8 72 (st.os.map GN.g)), (1000002, .arr 9 39 (st.rs.map GP.g))] [] [(1000000, .box [.c (.v (.int .u32 (tickS st).id)), .c (.v (.int .u32 (tickS st).seq)), .ms 201 n', .ms 202 m']), (201, .arr 8 72 ((tickS st).os.map GN.g)), (202, .arr 9 39 ((tickS st).rs.map GP.g))] := by
  refine Own.go' (E := env) Try.func12 rfl rfl rfl (Nat.le_of_ble_eq_true rfl) (Nat.le_of_ble_eq_true rfl) (by simp [Ob.like]) (h := ?_); rintro ⟨w0, T0, L0, n, r0, hn0, hT0⟩ hn hT hU; obtain rfl : n = _ := hn
  refine CQ.post ?_
  (repeat' (first | refine CQ.seq ?_ | refine CQ.block ?_ | ((first | apply CQ.rT hU | apply CQ.rD hU); (· (repeat (first | exact RunL.nil | (apply RunL.op; (first | ((first | apply sv | (apply gv; (· rfl); (· rfl)) | (apply gvB; (· rfl); (· rfl); (· assumption))); (first | exact vv)) | exact gn rfl rfl rfl | exact gnU rfl rfl | exact gnB rfl rfl (by assumption) rfl | exact so oo | exact gR rfl rfl oo | exact so rr | exact gR rfl rfl rr | exact gRB rfl rfl (by assumption) oo | exact gRB rfl rfl (by assumption) rr))))); (· kernel_rfl); clear hU; intro hU) | refine CQ.condT rfl ?_ | refine CQ.condF rfl ?_ | refine CQ.condT (hbl ‹_›) ?_ | refine CQ.condF (hbl ‹_›) ?_ | refine CQ.ret ?_ | refine CQ.skip ?_ | refine CQ.exit ?_ | (apply CQ.cond rfl <;> intro hb)))
  refine CQ.loopS (fun y : Nat × List OpenS × Nat × Nat × List RepS × Nat => ⟨mkT [(0, .loc 1000000 0), (2, .c (.v (.int .i64 y.2.2.1)))], mkM [(1000000, stO st.id st.seq 201 y.2.2.2.1 202 y.2.2.2.2.2), (201, opR (y.2.1 ++ st.os.drop y.1)), (202, rpR y.2.2.2.2.1)]⟩)
    (fun y => y.1 ≤ st.os.length ∧ y.2.1 = tickK (st.os.take y.1) ∧ y.2.1.length = y.2.2.1 ∧ y.2.2.2.1 = y.2.2.1 + (st.os.length - y.1) ∧ y.2.2.2.2.1 = st.rs ++ tickR (st.os.take y.1) ∧ y.2.2.2.2.1.length = y.2.2.2.2.2 ∧ y.2.2.2.2.2 ≤ m + y.1 ∧ y.2.2.1 ≤ y.1)
    (fun y => st.os.length - y.1) (0, [], 0, n, st.rs, m) ⟨Nat.zero_le _, by simp [tickK], rfl, by simp [hn], by simp [tickR], hm, by simp, by simp⟩ ?_ ?_
  · exact Sim.swaps [(1000001, 201), (1000002, 202)] [(0, .loc 1000000 0), (2, .c (.v (.int .i64 0)))] [(0, .loc 1000000 0), (2, .c (.v (.int .i64 0)))] [(1000000, .box [.c (.v (.int .u32 st.id)), .c (.v (.int .u32 st.seq)), .ms 1000001 n, .ms 1000002 m]), (1000001, .arr 8 72 (st.os.map GN.g)), (1000002, .arr 9 39 (st.rs.map GP.g))] [(1000000, .box [.c (.v (.int .u32 st.id)), .c (.v (.int .u32 st.seq)), .ms 201 n, .ms 202 m]), (201, .arr 8 72 (st.os.map GN.g)), (202, .arr 9 39 (st.rs.map GP.g))] hT (by (refine wkS ?_ ?_; (all_goals (repeat' (first | exact wkB | refine wkP ?_ ?_ | exact wkMB | refine wkMP rfl ?_ ?_ | exact wkOr rfl | exact wkB0 | refine wkBx ?_ ?_ | refine wkOa ?_ | exact wr rfl | exact wE rfl rfl | exact wNV rfl | exact wLV rfl | exact wMs rfl rfl rfl rfl rfl | exact wCv rfl rfl | exact wCv' rfl rfl | exact wNil rfl rfl | exact wF rfl (LeC.fl _) | apply wV5 rfl | apply wCv rfl | apply wCv' rfl | apply wE rfl | apply wMs rfl rfl rfl rfl | refine wMs rfl rfl ?_ rfl ?_))))) rfl (.cons (.loc rfl) (.cons (.c _) .nil)) renm
  clear hU
  rintro ⟨j, K, i, n1, R, m1⟩ ⟨hj, hK, hi, hn1, hR, hm2, hm3, hij⟩
  simp only at hj hK hi hn1 hR hm2 hm3 hij
  have hU : Fresh [1000000, 201, 202] ⟨mkT [(0, .loc 1000000 0), (2, .c (.v (.int .i64 i)))], mkM [(1000000, stO st.id st.seq 201 n1 202 m1), (201, opR (K ++ st.os.drop j)), (202, rpR R)]⟩ := by exact fr
  have hLl : (K ++ st.os.drop j).length = n1 := by simp [hi, hn1]
  have hlm0 : ((K ++ st.os.drop j).map GN.g).length = n1 := by simpa using hLl
  cases hb : decide ((i : Int) < (n1 : Int))
  · have hjl : j = st.os.length := by simp at hb; omega
    have hn1' : n1 = n' := by rw [← hn', ← hLl, hjl]; simp [tickS, hK, hjl]
    have hm1' : m1 = m' := by rw [← hm', ← hm2, hR, hjl]; simp [tickS]
    (repeat' (first | refine CQ.seq ?_ | refine CQ.block ?_ | ((first | apply CQ.rT hU | apply CQ.rD hU); (· (repeat (first | exact RunL.nil | (apply RunL.op; (first | ((first | apply sv | (apply gv; (· rfl); (· rfl)) | (apply gvB; (· rfl); (· rfl); (· assumption))); (first | exact (.lenM rfl rfl hlm0 rfl rfl) | exact vv)) | exact gn rfl rfl rfl | exact gnU rfl rfl | exact gnB rfl rfl (by assumption) rfl | exact so oo | exact gR rfl rfl oo | exact so rr | exact gR rfl rfl rr | exact gRB rfl rfl (by assumption) oo | exact gRB rfl rfl (by assumption) rr))))); (· kernel_rfl); clear hU; intro hU) | refine CQ.condT rfl ?_ | refine CQ.condF rfl ?_ | refine CQ.condT (hbl ‹_›) ?_ | refine CQ.condF (hbl ‹_›) ?_ | refine CQ.ret ?_ | refine CQ.skip ?_ | refine CQ.exit ?_ | (apply CQ.cond rfl <;> intro hb)))
    refine ⟨_, fun a w h => h, ?_⟩
    subst hn1' hm1'
    clear hU; refine retP ?_ ?_; all_goals (repeat' (first | exact RetL.nil | (apply RetL.cons; (first | (apply RetA.tmp; (repeat' (first | exact wkMB | refine wkMP rfl ?_ ?_ | exact wkOr rfl | exact wkB0 | refine wkBx ?_ ?_ | refine wkOa ?_ | exact wr rfl | exact wE rfl rfl | exact wNV rfl | exact wLV rfl | exact wMs rfl rfl rfl rfl rfl | exact wCv rfl rfl | exact wCv' rfl rfl | exact wNil rfl rfl | exact wF rfl (LeC.fl _) | apply wV5 rfl | apply wCv rfl | apply wCv' rfl | apply wE rfl | apply wMs rfl rfl rfl rfl | refine wMs rfl rfl ?_ rfl ?_))) | (apply RetA.cellS rfl rfl rfl rfl rfl; (repeat' (first | exact wkMB | refine wkMP rfl ?_ ?_ | exact wkOr rfl | exact wkB0 | refine wkBx ?_ ?_ | refine wkOa ?_ | exact wr rfl | exact wE rfl rfl | exact wNV rfl | exact wLV rfl | exact wMs rfl rfl rfl rfl rfl | exact wCv rfl rfl | exact wCv' rfl rfl | exact wNil rfl rfl | exact wF rfl (LeC.fl _) | apply wV5 rfl | apply wCv rfl | apply wCv' rfl | apply wE rfl | apply wMs rfl rfl rfl rfl | refine wMs rfl rfl ?_ rfl ?_))) | (apply RetA.cellW rfl rfl rfl rfl rfl; (repeat' (first | exact wkMB | refine wkMP rfl ?_ ?_ | exact wkOr rfl | exact wkB0 | refine wkBx ?_ ?_ | refine wkOa ?_ | exact wr rfl | exact wE rfl rfl | exact wNV rfl | exact wLV rfl | exact wMs rfl rfl rfl rfl rfl | exact wCv rfl rfl | exact wCv' rfl rfl | exact wNil rfl rfl | exact wF rfl (LeC.fl _) | apply wV5 rfl | apply wCv rfl | apply wCv' rfl | apply wE rfl | apply wMs rfl rfl rfl rfl | refine wMs rfl rfl ?_ rfl ?_))))) | exact wkMB | refine wkMP rfl ?_ ?_ | exact wkOr rfl | exact wkB0 | refine wkBx ?_ ?_ | refine wkOa ?_ | exact wr rfl | exact wE rfl rfl | exact wNV rfl | exact wLV rfl | exact wMs rfl rfl rfl rfl rfl | exact wCv rfl rfl | exact wCv' rfl rfl | exact wNil rfl rfl | exact wF rfl (LeC.fl _) | apply wV5 rfl | apply wCv rfl | apply wCv' rfl | apply wE rfl | apply wMs rfl rfl rfl rfl | refine wMs rfl rfl ?_ rfl ?_))
    · rw [hK, hjl]; simp [tickS]
    · rw [hR, hjl]; simp [tickS]
  have hjl : j < st.os.length := by simp at hb; omega
  have hx := List.getElem?_eq_getElem hjl
  generalize st.os[j] = x at hx
  have hKt := tickK_take hx
  have hRt := tickR_take hx
  rw [← hK] at hKt
  have hxk := row_at hi hx
  have hk0 := gy (G := GN) hxk
  obtain ⟨x1, hx1⟩ : ∃ x1 : OpenS, x1 = ⟨x.o, IntKind.i64.wrap (x.age + 1), x.now⟩ := ⟨_, rfl⟩
  have hxk1 : ((K ++ st.os.drop j).set i x1)[i]? = some x1 := by rw [row_set hi hx, List.getElem?_append_right (by omega), hi, Nat.sub_self]; rfl
  have hk1 := gy (G := GN) hxk1
  have hL1l : ((K ++ st.os.drop j).set i x1).length = n1 := by rw [List.length_set]; exact hLl
  have hlm1 : (((K ++ st.os.drop j).set i x1).map GN.g).length = n1 := by simpa using hL1l
  obtain ⟨o, age, now⟩ := x
  simp only at hx1
  subst hx1
  have hin : i < n1 := by simp at hb; omega
  cases ho : decide (IntKind.i64.wrap (age + 1) ≥ 3000)
  · have hox : oldX ⟨o, age, now⟩ = false := ho
    rw [hox] at hKt hRt
    simp only [Bool.false_eq_true, if_false, List.append_nil] at hKt hRt
    have hfin : ((K ++ st.os.drop j).set i ⟨o, IntKind.i64.wrap (age + 1), now⟩).set i (ageX ⟨o, age, now⟩) = (K ++ [ageX ⟨o, age, now⟩]) ++ st.os.drop (j + 1) := by rw [row_set hi hx, row_set2 hi]; simp
    have hgo : ∀ C (s : AS), Sim C s ⟨mkT [(0, .loc 1000000 0), (2, .c (.v (.int .i64 ((i + 1 : Nat) : Int))))], mkM [(1000000, stO st.id st.seq 201 n1 202 m1), (201, opR ((K ++ [ageX ⟨o, age, now⟩]) ++ st.os.drop (j + 1))), (202, rpR R)]⟩ → ∃ x' : Nat × List OpenS × Nat × Nat × List RepS × Nat,
        (x'.1 ≤ st.os.length ∧ x'.2.1 = tickK (st.os.take x'.1) ∧ x'.2.1.length = x'.2.2.1 ∧ x'.2.2.2.1 = x'.2.2.1 + (st.os.length - x'.1) ∧ x'.2.2.2.2.1 = st.rs ++ tickR (st.os.take x'.1) ∧ x'.2.2.2.2.1.length = x'.2.2.2.2.2 ∧ x'.2.2.2.2.2 ≤ m + x'.1 ∧ x'.2.2.1 ≤ x'.1) ∧
        st.os.length - x'.1 < st.os.length - j ∧ Sim C s ⟨mkT [(0, .loc 1000000 0), (2, .c (.v (.int .i64 x'.2.2.1)))], mkM [(1000000, stO st.id st.seq 201 x'.2.2.2.1 202 x'.2.2.2.2.2), (201, opR (x'.2.1 ++ st.os.drop x'.1)), (202, rpR x'.2.2.2.2.1)]⟩ := fun C s h =>
      ⟨(j + 1, K ++ [ageX ⟨o, age, now⟩], i + 1, n1, R, m1), ⟨hjl, hKt.symm, by simp [hi], by simp only; omega, by rw [hR, hRt], hm2, by simp only; omega, by simp only; omega⟩, by simp only; omega, h⟩
    cases now
    · (repeat' (first | refine CQ.seq ?_ | refine CQ.block ?_ | ((first | apply CQ.rT hU | apply CQ.rD hU); (· (repeat (first | exact RunL.nil | (apply RunL.op; (first | ((first | apply sv | (apply gv; (· rfl); (· rfl)) | (apply gvB; (· rfl); (· rfl); (· assumption))); (first | exact (mvE rfl) | exact (asE rfl) | exact (.lenM rfl rfl hlm0 rfl rfl) | exact (ixN rfl rfl hlm0 rfl (by omega) rfl rfl rfl rfl) | exact (.fldE rfl rfl hlm0 rfl rfl rfl rfl rfl) | exact (.fldE rfl rfl hlm1 rfl rfl rfl rfl rfl) | exact (.loadE rfl rfl hlm1 hk1 rfl rfl rfl) | exact (.loadE rfl rfl hlm0 hk0 rfl rfl rfl) | exact vv)) | exact gn rfl rfl rfl | exact gnU rfl rfl | exact gnB rfl rfl (by assumption) rfl | exact so ((.nilE rfl rfl hlm0)) | exact gR rfl rfl ((.nilE rfl rfl hlm0)) | exact gRB rfl rfl (by assumption) ((.nilE rfl rfl hlm0)) | exact so ((.nilE rfl rfl hlm1)) | exact gR rfl rfl ((.nilE rfl rfl hlm1)) | exact gRB rfl rfl (by assumption) ((.nilE rfl rfl hlm1)) | exact so ((stX (G := GN) (a := ⟨o, age, false⟩) (b := ⟨o, IntKind.i64.wrap (age + 1), false⟩) rfl rfl hLl hxk rfl rfl rfl rfl rfl rfl rfl rfl)) | exact gR rfl rfl ((stX (G := GN) (a := ⟨o, age, false⟩) (b := ⟨o, IntKind.i64.wrap (age + 1), false⟩) rfl rfl hLl hxk rfl rfl rfl rfl rfl rfl rfl rfl)) | exact gRB rfl rfl (by assumption) ((stX (G := GN) (a := ⟨o, age, false⟩) (b := ⟨o, IntKind.i64.wrap (age + 1), false⟩) rfl rfl hLl hxk rfl rfl rfl rfl rfl rfl rfl rfl)) | exact so ((stX (G := GN) (a := ⟨o, IntKind.i64.wrap (age + 1), false⟩) (b := ageX ⟨o, age, false⟩) rfl rfl hL1l hxk1 rfl rfl rfl rfl rfl rfl rfl rfl)) | exact gR rfl rfl ((stX (G := GN) (a := ⟨o, IntKind.i64.wrap (age + 1), false⟩) (b := ageX ⟨o, age, false⟩) rfl rfl hL1l hxk1 rfl rfl rfl rfl rfl rfl rfl rfl)) | exact gRB rfl rfl (by assumption) ((stX (G := GN) (a := ⟨o, IntKind.i64.wrap (age + 1), false⟩) (b := ageX ⟨o, age, false⟩) rfl rfl hL1l hxk1 rfl rfl rfl rfl rfl rfl rfl rfl)) | exact so oo | exact gR rfl rfl oo | exact so rr | exact gR rfl rfl rr | exact gRB rfl rfl (by assumption) oo | exact gRB rfl rfl (by assumption) rr))))); (· kernel_rfl); clear hU; intro hU) | refine CQ.condT rfl ?_ | refine CQ.condF rfl ?_ | refine CQ.condT (hbl ‹_›) ?_ | refine CQ.condF (hbl ‹_›) ?_ | refine CQ.ret ?_ | refine CQ.skip ?_ | refine CQ.exit ?_ | (apply CQ.cond rfl <;> intro hb)))
      refine hgo _ _ (Sim.wk ?_ hT)
      (refine wkS ?_ ?_; (all_goals (repeat' (first | exact wkB | refine wkP ?_ ?_ | exact wkMB | refine wkMP rfl ?_ ?_ | exact wkOr rfl | exact wkB0 | refine wkBx ?_ ?_ | refine wkOa ?_ | exact wr rfl | exact wE rfl rfl | exact wNV rfl | exact wLV rfl | exact wMs rfl rfl rfl rfl rfl | exact wCv rfl rfl | exact wCv' rfl rfl | exact wNil rfl rfl | exact wF rfl (LeC.fl _) | apply wV5 rfl | apply wCv rfl | apply wCv' rfl | apply wE rfl | apply wMs rfl rfl rfl rfl | refine wMs rfl rfl ?_ rfl ?_))))
      · rw [wrap_id (by omega) (by omega)]; rfl
      · exact congrArg (List.map GN.g) hfin
    · (repeat' (first | refine CQ.seq ?_ | refine CQ.block ?_ | ((first | apply CQ.rT hU | apply CQ.rD hU); (· (repeat (first | exact RunL.nil | (apply RunL.op; (first | ((first | apply sv | (apply gv; (· rfl); (· rfl)) | (apply gvB; (· rfl); (· rfl); (· assumption))); (first | exact (mvE rfl) | exact (asE rfl) | exact (.lenM rfl rfl hlm0 rfl rfl) | exact (ixN rfl rfl hlm0 rfl (by omega) rfl rfl rfl rfl) | exact (.fldE rfl rfl hlm0 rfl rfl rfl rfl rfl) | exact (.fldE rfl rfl hlm1 rfl rfl rfl rfl rfl) | exact (.loadE rfl rfl hlm1 hk1 rfl rfl rfl) | exact (.loadE rfl rfl hlm0 hk0 rfl rfl rfl) | exact vv)) | exact gn rfl rfl rfl | exact gnU rfl rfl | exact gnB rfl rfl (by assumption) rfl | exact so ((.nilE rfl rfl hlm0)) | exact gR rfl rfl ((.nilE rfl rfl hlm0)) | exact gRB rfl rfl (by assumption) ((.nilE rfl rfl hlm0)) | exact so ((.nilE rfl rfl hlm1)) | exact gR rfl rfl ((.nilE rfl rfl hlm1)) | exact gRB rfl rfl (by assumption) ((.nilE rfl rfl hlm1)) | exact so ((stX (G := GN) (a := ⟨o, age, true⟩) (b := ⟨o, IntKind.i64.wrap (age + 1), true⟩) rfl rfl hLl hxk rfl rfl rfl rfl rfl rfl rfl rfl)) | exact gR rfl rfl ((stX (G := GN) (a := ⟨o, age, true⟩) (b := ⟨o, IntKind.i64.wrap (age + 1), true⟩) rfl rfl hLl hxk rfl rfl rfl rfl rfl rfl rfl rfl)) | exact gRB rfl rfl (by assumption) ((stX (G := GN) (a := ⟨o, age, true⟩) (b := ⟨o, IntKind.i64.wrap (age + 1), true⟩) rfl rfl hLl hxk rfl rfl rfl rfl rfl rfl rfl rfl)) | exact so ((stX (G := GN) (a := ⟨o, IntKind.i64.wrap (age + 1), true⟩) (b := ageX ⟨o, age, true⟩) rfl rfl hL1l hxk1 rfl rfl rfl rfl rfl rfl rfl rfl)) | exact gR rfl rfl ((stX (G := GN) (a := ⟨o, IntKind.i64.wrap (age + 1), true⟩) (b := ageX ⟨o, age, true⟩) rfl rfl hL1l hxk1 rfl rfl rfl rfl rfl rfl rfl rfl)) | exact gRB rfl rfl (by assumption) ((stX (G := GN) (a := ⟨o, IntKind.i64.wrap (age + 1), true⟩) (b := ageX ⟨o, age, true⟩) rfl rfl hL1l hxk1 rfl rfl rfl rfl rfl rfl rfl rfl)) | exact so oo | exact gR rfl rfl oo | exact so rr | exact gR rfl rfl rr | exact gRB rfl rfl (by assumption) oo | exact gRB rfl rfl (by assumption) rr))))); (· kernel_rfl); clear hU; intro hU) | refine CQ.condT rfl ?_ | refine CQ.condF rfl ?_ | refine CQ.condT (hbl ‹_›) ?_ | refine CQ.condF (hbl ‹_›) ?_ | refine CQ.ret ?_ | refine CQ.skip ?_ | refine CQ.exit ?_ | (apply CQ.cond rfl <;> intro hb)))
      refine hgo _ _ (Sim.wk ?_ hT)
      (refine wkS ?_ ?_; (all_goals (repeat' (first | exact wkB | refine wkP ?_ ?_ | exact wkMB | refine wkMP rfl ?_ ?_ | exact wkOr rfl | exact wkB0 | refine wkBx ?_ ?_ | refine wkOa ?_ | exact wr rfl | exact wE rfl rfl | exact wNV rfl | exact wLV rfl | exact wMs rfl rfl rfl rfl rfl | exact wCv rfl rfl | exact wCv' rfl rfl | exact wNil rfl rfl | exact wF rfl (LeC.fl _) | apply wV5 rfl | apply wCv rfl | apply wCv' rfl | apply wE rfl | apply wMs rfl rfl rfl rfl | refine wMs rfl rfl ?_ rfl ?_))))
      · rw [wrap_id (by omega) (by omega)]; rfl
      · exact congrArg (List.map GN.g) hfin
  · have hox : oldX ⟨o, age, now⟩ = true := ho
    rw [hox] at hKt hRt
    simp only [if_true, List.append_nil] at hKt hRt
    have hans := answer_o 1000000 201 202 203 204 st.id st.seq ((K ++ st.os.drop j).set i ⟨o, IntKind.i64.wrap (age + 1), now⟩) R n1 m1 i (timeR ⟨o, age, now⟩) hL1l hm2 hin (by omega) (by omega) nil_small.1 (by decide)
    rw [ansR_time] at hans
    have hfin : ((K ++ st.os.drop j).set i ⟨o, IntKind.i64.wrap (age + 1), now⟩).eraseIdx i = K ++ st.os.drop (j + 1) := by rw [row_set hi hx, row_erase hi]
    rw [hfin] at hans
    have hto := time_toC ⟨o, age, now⟩
    (repeat' (first | refine CQ.seq ?_ | refine CQ.block ?_ | ((first | apply CQ.rT hU | apply CQ.rD hU); (· (repeat (first | exact RunL.nil | (apply RunL.op; (first | ((first | apply sv | (apply gv; (· rfl); (· rfl)) | (apply gvB; (· rfl); (· rfl); (· assumption))); (first | exact (mvE rfl) | exact (asE rfl) | exact (.lenM rfl rfl hlm0 rfl rfl) | exact (ixN rfl rfl hlm0 rfl (by omega) rfl rfl rfl rfl) | exact (.fldE rfl rfl hlm0 rfl rfl rfl rfl rfl) | exact (.fldE rfl rfl hlm1 rfl rfl rfl rfl rfl) | exact (.loadE rfl rfl hlm1 hk1 rfl rfl rfl) | exact (.loadE rfl rfl hlm0 hk0 rfl rfl rfl) | exact (.loadEA rfl rfl hlm1 hk1 rfl rfl (Nat.le_of_ble_eq_true rfl)) | exact vv)) | exact gn rfl rfl rfl | exact gnU rfl rfl | exact gnB rfl rfl (by assumption) rfl | exact so ((.nilE rfl rfl hlm0)) | exact gR rfl rfl ((.nilE rfl rfl hlm0)) | exact gRB rfl rfl (by assumption) ((.nilE rfl rfl hlm0)) | exact so ((.nilE rfl rfl hlm1)) | exact gR rfl rfl ((.nilE rfl rfl hlm1)) | exact gRB rfl rfl (by assumption) ((.nilE rfl rfl hlm1)) | exact so ((stX (G := GN) (a := ⟨o, age, now⟩) (b := ⟨o, IntKind.i64.wrap (age + 1), now⟩) rfl rfl hLl hxk rfl rfl rfl rfl rfl rfl rfl rfl)) | exact gR rfl rfl ((stX (G := GN) (a := ⟨o, age, now⟩) (b := ⟨o, IntKind.i64.wrap (age + 1), now⟩) rfl rfl hLl hxk rfl rfl rfl rfl rfl rfl rfl rfl)) | exact gRB rfl rfl (by assumption) ((stX (G := GN) (a := ⟨o, age, now⟩) (b := ⟨o, IntKind.i64.wrap (age + 1), now⟩) rfl rfl hLl hxk rfl rfl rfl rfl rfl rfl rfl rfl)) | exact so ((coG rfl hans (.cons rfl (.cons rfl (.cons rfl .nil))) rfl rfl rfl rfl rfl (.cons (aR rfl) (.cons (.c (tE rfl)) (.cons (.c hto) .nil))))) | exact gR rfl rfl ((coG rfl hans (.cons rfl (.cons rfl (.cons rfl .nil))) rfl rfl rfl rfl rfl (.cons (aR rfl) (.cons (.c (tE rfl)) (.cons (.c hto) .nil))))) | exact gRB rfl rfl (by assumption) ((coG rfl hans (.cons rfl (.cons rfl (.cons rfl .nil))) rfl rfl rfl rfl rfl (.cons (aR rfl) (.cons (.c (tE rfl)) (.cons (.c hto) .nil))))) | exact so oo | exact gR rfl rfl oo | exact so rr | exact gR rfl rfl rr | exact gRB rfl rfl (by assumption) oo | exact gRB rfl rfl (by assumption) rr))))); (· kernel_rfl); clear hU; intro hU) | refine CQ.condT rfl ?_ | refine CQ.condF rfl ?_ | refine CQ.condT (hbl ‹_›) ?_ | refine CQ.condF (hbl ‹_›) ?_ | refine CQ.ret ?_ | refine CQ.skip ?_ | refine CQ.exit ?_ | (apply CQ.cond rfl <;> intro hb)))
    refine ⟨(j + 1, K, i, n1 - 1, R ++ [timeR ⟨o, age, now⟩], m1 + 1), ⟨hjl, hKt.symm, hi, by simp only; omega, by rw [hR, hRt, List.append_assoc], by simp [hm2], by simp only; omega, by simp only; omega⟩, by simp only; omega, ?_⟩
    refine Sim.swaps [(203, 201), (204, 202)] [(0, .loc 1000000 0), (2, .c (.v (.int .i64 i)))] [(0, .loc 1000000 0), (2, .c (.v (.int .i64 i)))] [(1000000, stO st.id st.seq 203 (n1 - 1) 204 (m1 + 1)), (203, opR (K ++ st.os.drop (j + 1))), (204, rpR (R ++ [timeR ⟨o, age, now⟩]))] [(1000000, stO st.id st.seq 201 (n1 - 1) 202 (m1 + 1)), (201, opR (K ++ st.os.drop (j + 1))), (202, rpR (R ++ [timeR ⟨o, age, now⟩]))] hT ?_ rfl (.cons (.loc rfl) (.cons (.c _) .nil)) renm
    (refine wkS ?_ ?_; (all_goals (repeat' (first | exact wkB | refine wkP ?_ ?_ | exact wkMB | refine wkMP rfl ?_ ?_ | exact wkOr rfl | exact wkB0 | refine wkBx ?_ ?_ | refine wkOa ?_ | exact wr rfl | exact wE rfl rfl | exact wNV rfl | exact wLV rfl | exact wMs rfl rfl rfl rfl rfl | exact wCv rfl rfl | exact wCv' rfl rfl | exact wNil rfl rfl | exact wF rfl (LeC.fl _) | apply wV5 rfl | apply wCv rfl | apply wCv' rfl | apply wE rfl | apply wMs rfl rfl rfl rfl | refine wMs rfl rfl ?_ rfl ?_))))
end Go.Proofs.Ytcmldokgjbmbdaa
