/- Walks: a great queue. -/
import Derived.Test.YtbjcckjhfjhicaaG11
namespace Go.Proofs.Ytbjcckjhfjhicaa
open Go Go.AM
set_option linter.unusedVariables false
set_option maxHeartbeats 4000000
set_option maxRecDepth 100000
set_option linter.unusedSimpArgs false

def textV (s : ByteArray) : V := .mk 3 0 0 s []
theorem check_text {s : ByteArray} (h : s.size ≤ 256) : checkS (textV s) = 0 := by
  have h1 : kindsS (textV s) = true := rfl
  have h2 : greatS (textV s) 8 = false := by
    rw [greatS_eq]
    show (if (3 : Int) == 3 then decide ((s.size : Int) > 256) else _) = false
    simp; omega
  have h3 : sizeS (textV s) = 3 + (s.size : Int) := by
    rw [sizeS_eq]
    show IntKind.i64.wrap (3 + (s.size : Int)) = _
    exact wrap_id (by omega) (by omega)
  unfold checkS
  rw [h1, h2, h3]
  simp; omega
theorem mkB {E : Env} {m : Nat → Option Ob} {ev : Operand → AV} {t : TypeId} {x y : Operand} {e : Nat} {k k' : IntKind} {n : Nat} {d de : TD} (hx : ev x = .c (.v (.int k n))) (hy : ev y = .c (.v (.int k' n))) (ht : E.Ty t = some d) (hd : d.desc = .slice e) (he : E.Ty e = some de)
    (hz : de.zero = [.int .u8 0]) (hs : de.sz = 1) (hb : Nat.beq de.bytes 1 = true) (hn : n ≤ 1000000) : StepV E m ev (.makeSlice t x y) (.c (.sl 1 ((List.replicate n (0 : Int)).map fun b => .v (.int .u8 b)))) [] := by
  have hb := Nat.eq_of_beq_eq_true hb
  have := StepV.mkslice (E := E) (m := m) hx hy ht hd he hz hs (by rw [hb]; omega) (by omega)
  rwa [← List.map_replicate (f := fun b : Int => CV.v (.int .u8 b))] at this
def repsV (c : Nat) (v : V) : V := listV (List.replicate c v)
theorem size_text {s : ByteArray} (h : s.size ≤ 256) : sizeS (textV s) = 3 + (s.size : Int) := by
  rw [sizeS_eq]
  show IntKind.i64.wrap (3 + (s.size : Int)) = _
  exact wrap_id (by omega) (by omega)
theorem clean_text (s : ByteArray) : cleanS (textV s) = textV s := by rw [cleanS_eq]; rfl
theorem great_reps {s : ByteArray} {c : Nat} (h : s.size ≤ 256) (hc : c ≤ 64) : greatS (repsV c (textV s)) 8 = false := by
  rw [greatS_eq]
  show (decide (((List.replicate c (textV s)).length : Int) > 64) || decide ((8 : Int) < 1) || greatsS (List.replicate c (textV s)) 7) = false
  have hg : greatS (textV s) 7 = false := by
    rw [greatS_eq]
    show decide ((s.size : Int) > 256) = false
    exact decide_eq_false (by omega)
  have : greatsS (List.replicate c (textV s)) 7 = false := by
    rw [greatsS_eq]
    refine List.any_eq_false.2 fun x hx => ?_
    rw [List.eq_of_mem_replicate hx, hg]; decide
  rw [this, List.length_replicate, decide_eq_false (by omega)]; rfl
theorem sum_reps (c : Nat) (v : V) : sumS (List.replicate c v) = c * sizeS v := by
  induction c with
  | zero => simp [sumS]
  | succ c ih =>
    have : sumS (List.replicate (c + 1) v) = sizeS v + sumS (List.replicate c v) := by simp [sumS, List.replicate_succ]
    rw [this, ih, Int.natCast_add, Int.add_mul]; simp; omega
theorem size_reps {s : ByteArray} {c : Nat} (h : s.size ≤ 256) (hc : c ≤ 64) : sizeS (repsV c (textV s)) = 2 + c * (3 + (s.size : Int)) := by
  have := (sizes_list (great_reps h hc)).1
  rw [show repsV c (textV s) = listV (List.replicate c (textV s)) from rfl, this, sum_reps, size_text h]
theorem kinds_reps (c : Nat) (s : ByteArray) : kindsS (repsV c (textV s)) = true := by
  rw [kindsS_eq]
  show kindssS (List.replicate c (textV s)) = true
  rw [kindssS_eq]
  refine List.all_eq_true.2 fun x hx => ?_
  rw [List.eq_of_mem_replicate hx]; rfl
theorem qOk_reps {s : ByteArray} {c : Nat} (h : s.size ≤ 256) (hc : c ≤ 64) : qOk (repsV c (textV s)) = (decide (c ≤ 32) && decide (2 + c * (3 + (s.size : Int)) ≤ 4096)) := by
  have hl : (repsV c (textV s)).l.length = c := List.length_replicate ..
  show (((4 : Int) == 4) && (decide (((repsV c (textV s)).l.length : Int) ≤ 32) && checkS (repsV c (textV s)) == 0)) = _
  unfold checkS
  rw [kinds_reps, great_reps h hc, size_reps h hc, hl]
  by_cases h1 : c ≤ 32 <;> by_cases h2 : 2 + (c : Int) * (3 + (s.size : Int)) ≤ 4096
  all_goals simp [h1, h2]
  all_goals omega
theorem check_push {x : V} (h : checkS x = 0) : checkR sQueue sPush [x] = 0 := by
  have hf : findS (methR sQueue) sPush = some (sPush, ⟨#[118]⟩, true) := by
    unfold findS
    rw [methR_q]
    simp only [ByteArray.toList_eq]
    rfl
  unfold checkR
  rw [hf]
  have h1 : ((⟨#[118]⟩ : ByteArray).toList == sS.toList) = false := by simp only [ByteArray.toList_eq]; rfl
  simp only [Option.isSome_some, if_true, Option.getD_some, h1, Bool.false_eq_true, if_false]
  have h2 : (((⟨#[118]⟩ : ByteArray).size : Int) != (([x].length : Nat) : Int)) = false := rfl
  rw [h2]
  simp only [Bool.false_eq_true, if_false]
  unfold tailS
  have h3 : firstErr [x] = 0 := by
    unfold firstErr
    simp [List.find?, h]
  rw [h3]; rfl
theorem reps_succ (c : Nat) (v : V) : List.replicate c v ++ [v] = List.replicate (c + 1) v := by rw [List.replicate_succ']
theorem q_push {s : ByteArray} {c : Nat} (h : s.size ≤ 256) (hq : qOk (repsV c (textV s)) = true) : qS (repsV c (textV s)) sPush [textV s] = if qOk (repsV (c + 1) (textV s)) then (repsV (c + 1) (textV s), intV' ((c + 1 : Nat) : Int), 0) else (nilV, nilV, 33) := by
  unfold qS
  rw [hq, check_push (check_text h)]
  rw [if_neg (by decide), if_neg (by decide)]
  have hm : (repsV c (textV s)).l.map cleanS = List.replicate c (textV s) := by
    show (List.replicate c (textV s)).map cleanS = _
    rw [List.map_replicate, clean_text]
  rw [hm]
  unfold q1S
  rw [if_pos (by simp only [ByteArray.toList_eq]; rfl)]
  show pushS (List.replicate c (textV s)) (cleanS (textV s)) = _
  unfold pushS
  rw [clean_text, reps_succ, List.length_replicate]; rfl
theorem queueGreat_c (a n : Nat) (ha : a < 256) (hn : n < 256) : Pure env.P 8 [.v (.int .u8 a), .v (.int .u8 n)] [.v (.bool true)] := by
  refine Pure.go (E := env) Try.func8 rfl rfl rfl (Nat.le_of_ble_eq_true rfl) (Nat.le_of_ble_eq_true rfl) ?_; rintro ⟨w0, T0, L0, n, r0, hn0, hT0⟩ hn hT hU; obtain rfl : n = _ := hn
  have hkn := knownQ_c
  generalize hs0 : strOfNums (List.replicate a (0 : Int)) = T
  have hTs : T.size = a := by rw [← hs0, strOfNums_size]; simp
  have ht := text_c T
  have haw : IntKind.i64.wrap ((a : Nat) : Int) = (a : Int) := wrap_id (by omega) (by omega)
  have hmk := fun {x : Operand} {ev : Operand → AV} (hx : ev x = .c (.v (.int .i64 (IntKind.i64.wrap ((a : Nat) : Int))))) => show ev x = .c (.v (.int .i64 (a : Int))) by rw [hx, haw]
  have hcb := fun {m : Nat → Option Ob} {ev : Operand → AV} {x : Operand} (hx : ev x = .c (.sl 1 ((List.replicate a (0 : Int)).map fun b => .v (.int .u8 b)))) => show StepV env m ev (.convert 37 9 x) (.c (.v (.string T))) [] by rw [← hs0]; exact .convB hx rfl rfl rfl rfl rfl rfl
  have hl0 := list_c []
  (repeat' (first | refine CQ.seq ?_ | refine CQ.block ?_ | ((first | apply CQ.rT hU | apply CQ.rD hU); (· (repeat (first | exact RunL.nil | (apply RunL.op; (first | ((first | apply sv | (apply gv; (· rfl); (· rfl)) | (apply gvB; (· rfl); (· rfl); (· assumption))); (first | exact .callP rfl rfl ta (hkn) | exact (mkB (hmk rfl) (hmk rfl) rfl rfl rfl rfl rfl rfl (by omega)) | exact (hcb rfl) | exact .callP rfl rfl ta (ht) | exact .callP rfl rfl ta (hl0) | exact vv)) | exact gn rfl rfl rfl | exact gnU rfl rfl | exact gnB rfl rfl (by assumption) rfl | exact so oo | exact gR rfl rfl oo | exact so rr | exact gR rfl rfl rr | exact gRB rfl rfl (by assumption) oo | exact gRB rfl rfl (by assumption) rr))))); (· kernel_rfl); clear hU; intro hU) | refine CQ.condT rfl ?_ | refine CQ.condF rfl ?_ | refine CQ.condT (hbl ‹_›) ?_ | refine CQ.condF (hbl ‹_›) ?_ | refine CQ.ret ?_ | refine CQ.skip ?_ | refine CQ.exit ?_ | (apply CQ.cond rfl <;> intro hb)))
  have hsT : T.size ≤ 256 := by omega
  refine CQ.loop hT (fun x : Nat × Nat => ⟨mkT [(0, .c (.v (.int .u8 a))), (1, .c (.v (.int .u8 n))), (5, .loc 5 0), (6, .loc 6 0), (7, .c (.v (.int .i64 x.1)))], mkM [(5, .box (textV T).ca), (6, .box (repsV x.2 (textV T)).ca)]⟩) (fun x => x.1 ≤ n % 40 ∧ x.2 ≤ 32 ∧ qOk (repsV x.2 (textV T)) = true) (fun x => n % 40 - x.1) (0, 0) ⟨Nat.zero_le _, by decide, by rw [qOk_reps hsT (by decide)]; show (decide ((0 : Nat) ≤ 32) && decide (2 + ((0 : Nat) : Int) * (3 + (T.size : Int)) ≤ 4096)) = true; simp⟩ ?_ ?_
  · (refine wkS ?_ ?_; (all_goals (repeat' (first | exact wkB | refine wkP ?_ ?_ | exact wkMB | refine wkMP rfl ?_ ?_ | exact wkOr rfl | exact wkB0 | refine wkBx ?_ ?_ | refine wkOa ?_ | exact wr rfl | exact wE rfl rfl | exact wNV rfl | exact wLV rfl | exact wMs rfl rfl rfl rfl rfl | exact wCv rfl rfl | exact wCv' rfl rfl | exact wNil rfl rfl | exact wF rfl (LeC.fl _) | apply wV5 rfl | apply wCv rfl | apply wCv' rfl | apply wE rfl | apply wMs rfl rfl rfl rfl | refine wMs rfl rfl ?_ rfl ?_))))
  clear hU
  rintro ⟨k, c⟩ ⟨hk, hc, hq⟩
  simp only at hk hc hq
  have hsz := size_reps (s := T) (c := c) hsT (by omega)
  have hvz := size_text hsT
  have hsl : (repsV c (textV T)).l.length = c := List.length_replicate ..
  have hd := qDo_c (repsV c (textV T)) sPush [textV T]
  rw [q_push hsT hq] at hd
  have hok1 := qOk_reps (s := T) (c := c + 1) hsT (by omega)
  have hq0 := hq
  rw [qOk_reps hsT (by omega)] at hq0
  simp only [Bool.and_eq_true, decide_eq_true_eq] at hq0
  have hgo : ∀ c', c' ≤ 32 → qOk (repsV c' (textV T)) = true → k < n % 40 → ((k + 1, c') : Nat × Nat).1 ≤ n % 40 ∧ ((k + 1, c') : Nat × Nat).2 ≤ 32 ∧ qOk (repsV ((k + 1, c') : Nat × Nat).2 (textV T)) = true := fun c' h1 h2 h3 => ⟨h3, h1, h2⟩
  have hl1 : (repsV (c + 1) (textV T)).l.length = c + 1 := List.length_replicate ..
  have hr := rightQ_c (repsV c (textV T))
  rw [hq] at hr
  have h6 := same_c nilV nilV
  rw [sameS_refl] at h6
  have hS1 := size1_c (repsV c (textV T))
  have hS2 := size1_c (textV T)
  rw [hsz] at hS1
  rw [hvz] at hS2
  have hmul : ((c + 1 : Nat) : Int) * (3 + (T.size : Int)) = c * (3 + (T.size : Int)) + (3 + T.size) := by rw [Int.natCast_add, Int.add_mul]; simp
  rw [hmul] at hok1
  generalize hP : (c : Int) * (3 + (T.size : Int)) = P at *
  have hP0 : 0 ≤ P := by rw [← hP]; exact Int.mul_nonneg (by omega) (by omega)
  have hw : IntKind.i64.wrap (2 + P + (3 + (T.size : Int))) = 2 + P + (3 + T.size) := wrap_id (by omega) (by omega)
  have hU : Fresh [5, 6] ⟨mkT [(0, .c (.v (.int .u8 a))), (1, .c (.v (.int .u8 n))), (5, .loc 5 0), (6, .loc 6 0), (7, .c (.v (.int .i64 k)))], mkM [(5, .box (textV T).ca), (6, .box (repsV c (textV T)).ca)]⟩ := by exact fr
  generalize hss : repsV c (textV T) = s at *
  generalize hvv : textV T = v at *
  have hrem : IntKind.i64.wrap ((n : Int).tmod 40) = ((n % 40 : Nat) : Int) := by rw [Int.tmod_eq_emod_of_nonneg (by omega), wrap_id (by omega) (by omega)]; omega
  cases hb : decide ((k : Int) < IntKind.i64.wrap ((n : Int).tmod 40))
  · (repeat' (first | refine CQ.seq ?_ | refine CQ.block ?_ | ((first | apply CQ.rT hU | apply CQ.rD hU); (· (repeat (first | exact RunL.nil | (apply RunL.op; (first | ((first | apply sv | (apply gv; (· rfl); (· rfl)) | (apply gvB; (· rfl); (· rfl); (· assumption))); (first | exact .callP rfl rfl ta (hr) | exact vv)) | exact gn rfl rfl rfl | exact gnU rfl rfl | exact gnB rfl rfl (by assumption) rfl | exact so oo | exact gR rfl rfl oo | exact so rr | exact gR rfl rfl rr | exact gRB rfl rfl (by assumption) oo | exact gRB rfl rfl (by assumption) rr))))); (· kernel_rfl); clear hU; intro hU) | refine CQ.condT rfl ?_ | refine CQ.condF rfl ?_ | refine CQ.condT (hbl ‹_›) ?_ | refine CQ.condF (hbl ‹_›) ?_ | refine CQ.ret ?_ | refine CQ.skip ?_ | refine CQ.exit ?_ | (apply CQ.cond rfl <;> intro hb)))
    (repeat' (first | (apply retC; (first | (apply RetA.tmp; (repeat' (first | exact rfl | exact wE rfl rfl | exact wNV rfl | exact wLV rfl | exact wMs rfl rfl rfl rfl rfl | exact wCv rfl rfl | exact wCv' rfl rfl | exact wNil rfl rfl | exact wF rfl (LeC.fl _) | exact wF rfl (LeC.refl _) | apply wV5 rfl | apply wCv rfl | apply wCv' rfl | apply wE rfl | apply wMs rfl rfl rfl rfl | refine wMs rfl rfl ?_ rfl ?_))) | (apply RetA.cellS rfl rfl rfl rfl rfl; (repeat' (first | exact rfl | exact wE rfl rfl | exact wNV rfl | exact wLV rfl | exact wMs rfl rfl rfl rfl rfl | exact wCv rfl rfl | exact wCv' rfl rfl | exact wNil rfl rfl | exact wF rfl (LeC.fl _) | exact wF rfl (LeC.refl _) | apply wV5 rfl | apply wCv rfl | apply wCv' rfl | apply wE rfl | apply wMs rfl rfl rfl rfl | refine wMs rfl rfl ?_ rfl ?_))) | (apply RetA.cellW rfl rfl rfl rfl rfl; (repeat' (first | exact rfl | exact wE rfl rfl | exact wNV rfl | exact wLV rfl | exact wMs rfl rfl rfl rfl rfl | exact wCv rfl rfl | exact wCv' rfl rfl | exact wNil rfl rfl | exact wF rfl (LeC.fl _) | exact wF rfl (LeC.refl _) | apply wV5 rfl | apply wCv rfl | apply wCv' rfl | apply wE rfl | apply wMs rfl rfl rfl rfl | refine wMs rfl rfl ?_ rfl ?_))))) | exact retN))
  rw [hrem] at hb
  have hk' : k < n % 40 := by simp at hb; omega
  rw [← hrem] at hb
  cases h1 : qOk (repsV (c + 1) v)
  · rw [h1, if_neg (by decide)] at hd
    cases h2 : decide ((s.l.length : Int) < 32)
    · (repeat' (first | refine CQ.seq ?_ | refine CQ.block ?_ | ((first | apply CQ.rT hU | apply CQ.rD hU); (· (repeat (first | exact RunL.nil | (apply RunL.op; (first | ((first | apply sv | (apply gv; (· rfl); (· rfl)) | (apply gvB; (· rfl); (· rfl); (· assumption))); (first | exact .callP rfl rfl ta (hd) | exact .callP rfl rfl ta (hS1) | exact .callP rfl rfl ta (hS2) | exact .callP rfl rfl ta (h6) | exact vv)) | exact gn rfl rfl rfl | exact gnU rfl rfl | exact gnB rfl rfl (by assumption) rfl | exact so oo | exact gR rfl rfl oo | exact so rr | exact gR rfl rfl rr | exact gRB rfl rfl (by assumption) oo | exact gRB rfl rfl (by assumption) rr))))); (· kernel_rfl); clear hU; intro hU) | refine CQ.condT rfl ?_ | refine CQ.condF rfl ?_ | refine CQ.condT (hbl ‹_›) ?_ | refine CQ.condF (hbl ‹_›) ?_ | refine CQ.ret ?_ | refine CQ.skip ?_ | refine CQ.exit ?_ | (apply CQ.cond rfl <;> intro hb)))
      refine ⟨(k + 1, c), hgo c hc (by rw [hss]; exact hq) hk', by simp only; omega, ?_⟩
      subst hss
      (refine wkS ?_ ?_; (all_goals (repeat' (first | exact wkB | refine wkP ?_ ?_ | exact wkMB | refine wkMP rfl ?_ ?_ | exact wkOr rfl | exact wkB0 | refine wkBx ?_ ?_ | refine wkOa ?_ | exact wr rfl | exact wE rfl rfl | exact wNV rfl | exact wLV rfl | exact wMs rfl rfl rfl rfl rfl | exact wCv rfl rfl | exact wCv' rfl rfl | exact wNil rfl rfl | exact wF rfl (LeC.fl _) | apply wV5 rfl | apply wCv rfl | apply wCv' rfl | apply wE rfl | apply wMs rfl rfl rfl rfl | refine wMs rfl rfl ?_ rfl ?_))))
      rw [wrap_id (by omega) (by omega)]; rfl
    · have h3 : decide (IntKind.i64.wrap (2 + P + (3 + (T.size : Int))) ≤ 4096) = false := by
        rw [hw]
        rw [h1] at hok1
        simp at h2 hok1 ⊢
        have := hok1 (by omega)
        omega
      have e9 : (!(((33 : Int) == 0) == decide (IntKind.i64.wrap (2 + P + (3 + (T.size : Int))) ≤ 4096))) = false := by rw [h3]; rfl
      have e10 : (!decide (IntKind.i64.wrap (2 + P + (3 + (T.size : Int))) ≤ 4096)) = true := by rw [h3]; rfl
      (repeat' (first | refine CQ.seq ?_ | refine CQ.block ?_ | ((first | apply CQ.rT hU | apply CQ.rD hU); (· (repeat (first | exact RunL.nil | (apply RunL.op; (first | ((first | apply sv | (apply gv; (· rfl); (· rfl)) | (apply gvB; (· rfl); (· rfl); (· assumption))); (first | exact .callP rfl rfl ta (hd) | exact .callP rfl rfl ta (hS1) | exact .callP rfl rfl ta (hS2) | exact .callP rfl rfl ta (h6) | exact vv)) | exact gn rfl rfl rfl | exact gnU rfl rfl | exact gnB rfl rfl (by assumption) rfl | exact so oo | exact gR rfl rfl oo | exact so rr | exact gR rfl rfl rr | exact gRB rfl rfl (by assumption) oo | exact gRB rfl rfl (by assumption) rr))))); (· kernel_rfl); clear hU; intro hU) | refine CQ.condT rfl ?_ | refine CQ.condF rfl ?_ | refine CQ.condT (hbl ‹_›) ?_ | refine CQ.condF (hbl ‹_›) ?_ | refine CQ.ret ?_ | refine CQ.skip ?_ | refine CQ.exit ?_ | (apply CQ.cond rfl <;> intro hb)))
      refine ⟨(k + 1, c), hgo c hc (by rw [hss]; exact hq) hk', by simp only; omega, ?_⟩
      subst hss
      (refine wkS ?_ ?_; (all_goals (repeat' (first | exact wkB | refine wkP ?_ ?_ | exact wkMB | refine wkMP rfl ?_ ?_ | exact wkOr rfl | exact wkB0 | refine wkBx ?_ ?_ | refine wkOa ?_ | exact wr rfl | exact wE rfl rfl | exact wNV rfl | exact wLV rfl | exact wMs rfl rfl rfl rfl rfl | exact wCv rfl rfl | exact wCv' rfl rfl | exact wNil rfl rfl | exact wF rfl (LeC.fl _) | apply wV5 rfl | apply wCv rfl | apply wCv' rfl | apply wE rfl | apply wMs rfl rfl rfl rfl | refine wMs rfl rfl ?_ rfl ?_))))
      rw [wrap_id (by omega) (by omega)]; rfl
  · rw [h1, if_pos rfl] at hd
    rw [h1] at hok1
    have hok1 := hok1.symm
    simp only [Bool.and_eq_true, decide_eq_true_eq] at hok1
    have h2 : decide ((s.l.length : Int) < 32) = true := by simp; omega
    have h3 : decide (IntKind.i64.wrap (2 + P + (3 + (T.size : Int))) ≤ 4096) = true := by rw [hw]; simp; omega
    have e9 : (!(((0 : Int) == 0) == decide (IntKind.i64.wrap (2 + P + (3 + (T.size : Int))) ≤ 4096))) = false := by rw [h3]; rfl
    have e10 : (!decide (IntKind.i64.wrap (2 + P + (3 + (T.size : Int))) ≤ 4096)) = false := by rw [h3]; rfl
    have hwl : IntKind.i64.wrap ((s.l.length : Int) + 1) = ((c + 1 : Nat) : Int) := by rw [wrap_id (by omega) (by omega), hsl]; rfl
    have h4 : ((intV' ((c + 1 : Nat) : Int)).i != IntKind.i64.wrap ((s.l.length : Int) + 1)) = false := by rw [hwl]; simp [intV']
    have h5 : (((repsV (c + 1) v).l.length : Int) != IntKind.i64.wrap ((s.l.length : Int) + 1)) = false := by rw [hwl, hl1]; simp
    generalize intV' ((c + 1 : Nat) : Int) = w at hd h4
    have hgo1 := hgo (c + 1) hok1.1 h1 hk'
    generalize hu : repsV (c + 1) v = u at hd h5
    (repeat' (first | refine CQ.seq ?_ | refine CQ.block ?_ | ((first | apply CQ.rT hU | apply CQ.rD hU); (· (repeat (first | exact RunL.nil | (apply RunL.op; (first | ((first | apply sv | (apply gv; (· rfl); (· rfl)) | (apply gvB; (· rfl); (· rfl); (· assumption))); (first | exact .callP rfl rfl ta (hd) | exact .callP rfl rfl ta (hS1) | exact .callP rfl rfl ta (hS2) | exact .callP rfl rfl ta (h6) | exact vv)) | exact gn rfl rfl rfl | exact gnU rfl rfl | exact gnB rfl rfl (by assumption) rfl | exact so oo | exact gR rfl rfl oo | exact so rr | exact gR rfl rfl rr | exact gRB rfl rfl (by assumption) oo | exact gRB rfl rfl (by assumption) rr))))); (· kernel_rfl); clear hU; intro hU) | refine CQ.condT rfl ?_ | refine CQ.condF rfl ?_ | refine CQ.condT (hbl ‹_›) ?_ | refine CQ.condF (hbl ‹_›) ?_ | refine CQ.ret ?_ | refine CQ.skip ?_ | refine CQ.exit ?_ | (apply CQ.cond rfl <;> intro hb)))
    refine ⟨(k + 1, c + 1), hgo1, by simp only; omega, ?_⟩
    subst hu
    (refine wkS ?_ ?_; (all_goals (repeat' (first | exact wkB | refine wkP ?_ ?_ | exact wkMB | refine wkMP rfl ?_ ?_ | exact wkOr rfl | exact wkB0 | refine wkBx ?_ ?_ | refine wkOa ?_ | exact wr rfl | exact wE rfl rfl | exact wNV rfl | exact wLV rfl | exact wMs rfl rfl rfl rfl rfl | exact wCv rfl rfl | exact wCv' rfl rfl | exact wNil rfl rfl | exact wF rfl (LeC.fl _) | apply wV5 rfl | apply wCv rfl | apply wCv' rfl | apply wE rfl | apply wMs rfl rfl rfl rfl | refine wMs rfl rfl ?_ rfl ?_))))
    rw [wrap_id (by omega) (by omega)]; rfl
end Go.Proofs.Ytbjcckjhfjhicaa
