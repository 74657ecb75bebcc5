/- Walks: the laws of what methods take. -/
import Derived.Test.YtbjcckjhfjhicaaG2
namespace Go.Proofs.Ytbjcckjhfjhicaa
open Go Go.AM
set_option linter.unusedVariables false
set_option maxHeartbeats 4000000
set_option maxRecDepth 100000
set_option linter.unusedSimpArgs false

/-! one value, of a method that takes a name -/
theorem check_name {c n q : ByteArray} {wr : Bool} (h : findS (methR c) n = some (q, ⟨#[110]⟩, wr)) (v : V) : checkR c n [v] = if checkS v != 0 then checkS v else if namedS v then 0 else 31 := by
  unfold checkR
  rw [h]
  have h1 : ((⟨#[110]⟩ : ByteArray).toList == sS.toList) = false := by simp only [ByteArray.toList_eq]; rfl
  simp only [Option.isSome_some, if_true, Option.getD_some, h1, Bool.false_eq_true, if_false]
  have h2 : (((⟨#[110]⟩ : ByteArray).size : Int) != (([v].length : Nat) : Int)) = false := rfl
  rw [h2]
  simp only [Bool.false_eq_true, if_false]
  unfold tailS
  have h3 : firstErr [v] = checkS v := by
    unfold firstErr
    cases h : (checkS v != 0) <;> simp [List.find?, h]
    simp at h; exact h.symm
  have h4 : okS rightR ⟨#[110]⟩ [v] = namedS v := by
    show (rightR 110 v && true) = _
    rw [Bool.and_true]; rfl
  rw [h3, h4]
def sOpen : ByteArray := ⟨#[111, 112, 101, 110]⟩
theorem find_get : ∃ q wr, findS (methR sTable) sGet = some (q, ⟨#[110]⟩, wr) := by
  rw [show methR sTable = methRTable by unfold methR; simp only [ByteArray.toList_eq]; rfl]
  unfold findS
  simp only [ByteArray.toList_eq]
  exact ⟨_, _, rfl⟩
theorem find_open : ∃ q wr, findS (methR sLedger) sOpen = some (q, ⟨#[110]⟩, wr) := by
  rw [show methR sLedger = methRLedger by unfold methR; simp only [ByteArray.toList_eq]; rfl]
  unfold findS
  simp only [ByteArray.toList_eq]
  exact ⟨_, _, rfl⟩
def textV (s : ByteArray) : V := .mk 3 0 0 s []
theorem check_text {s : ByteArray} (h : s.size ≤ 256) : checkS (textV s) = 0 := by
  have h1 : kindsS (textV s) = true := rfl
  have h2 : greatS (textV s) 8 = false := by
    rw [greatS_eq]
    show (if (3 : Int) == 3 then decide ((s.size : Int) > 256) else _) = false
    simp; omega
  have h3 : sizeS (textV s) = 3 + (s.size : Int) := by
    rw [sizeS_eq]
    show IntKind.i64.wrap (3 + (s.size : Int)) = _
    exact wrap_id (by omega) (by omega)
  unfold checkS
  rw [h1, h2, h3]
  simp; omega
theorem mkB {E : Env} {m : Nat → Option Ob} {ev : Operand → AV} {t : TypeId} {x y : Operand} {e : Nat} {k k' : IntKind} {n : Nat} {d de : TD} (hx : ev x = .c (.v (.int k n))) (hy : ev y = .c (.v (.int k' n))) (ht : E.Ty t = some d) (hd : d.desc = .slice e) (he : E.Ty e = some de)
    (hz : de.zero = [.int .u8 0]) (hs : de.sz = 1) (hb : Nat.beq de.bytes 1 = true) (hn : n ≤ 1000000) : StepV E m ev (.makeSlice t x y) (.c (.sl 1 ((List.replicate n (0 : Int)).map fun b => .v (.int .u8 b)))) [] := by
  have hb := Nat.eq_of_beq_eq_true hb
  have := StepV.mkslice (E := E) (m := m) hx hy ht hd he hz hs (by rw [hb]; omega) (by omega)
  rwa [← List.map_replicate (f := fun b : Int => CV.v (.int .u8 b))] at this
theorem argsNames_c (n : Nat) (hn : n < 256) (v : V) : Pure env.P 4 [.v (.int .u8 n), v.cv] [.v (.bool true)] := by
  refine Pure.go (E := env) Try.func4 rfl rfl rfl (Nat.le_of_ble_eq_true rfl) (Nat.le_of_ble_eq_true rfl) ?_; rintro ⟨w0, T0, L0, n, r0, hn0, hT0⟩ hn hT hU; obtain rfl : n = _ := hn
  have hkn := known7_c
  have hl := light_c v
  cases h1 : lightS v
  · rw [h1] at hl
    (repeat' (first | refine CQ.seq ?_ | refine CQ.block ?_ | ((first | apply CQ.rT hU | apply CQ.rD hU); (· (repeat (first | exact RunL.nil | (apply RunL.op; (first | ((first | apply sv | (apply gv; (· rfl); (· rfl)) | (apply gvB; (· rfl); (· rfl); (· assumption))); (first | exact .callP rfl rfl ta (hkn) | exact .callP rfl rfl ta (hl) | exact vv)) | exact gn rfl rfl rfl | exact gnU rfl rfl | exact gnB rfl rfl (by assumption) rfl | exact so oo | exact gR rfl rfl oo | exact so rr | exact gR rfl rfl rr | exact gRB rfl rfl (by assumption) oo | exact gRB rfl rfl (by assumption) rr))))); (· kernel_rfl); clear hU; intro hU) | refine CQ.condT rfl ?_ | refine CQ.condF rfl ?_ | refine CQ.condT (hbl ‹_›) ?_ | refine CQ.condF (hbl ‹_›) ?_ | refine CQ.ret ?_ | refine CQ.skip ?_ | refine CQ.exit ?_ | (apply CQ.cond rfl <;> intro hb)))
    (repeat' (first | (apply retC; (first | (apply RetA.tmp; (repeat' (first | exact rfl | exact wE rfl rfl | exact wNV rfl | exact wLV rfl | exact wMs rfl rfl rfl rfl rfl | exact wCv rfl rfl | exact wCv' rfl rfl | exact wNil rfl rfl | exact wF rfl (LeC.fl _) | exact wF rfl (LeC.refl _) | apply wV5 rfl | apply wCv rfl | apply wCv' rfl | apply wE rfl | apply wMs rfl rfl rfl rfl | refine wMs rfl rfl ?_ rfl ?_))) | (apply RetA.cellS rfl rfl rfl rfl rfl; (repeat' (first | exact rfl | exact wE rfl rfl | exact wNV rfl | exact wLV rfl | exact wMs rfl rfl rfl rfl rfl | exact wCv rfl rfl | exact wCv' rfl rfl | exact wNil rfl rfl | exact wF rfl (LeC.fl _) | exact wF rfl (LeC.refl _) | apply wV5 rfl | apply wCv rfl | apply wCv' rfl | apply wE rfl | apply wMs rfl rfl rfl rfl | refine wMs rfl rfl ?_ rfl ?_))) | (apply RetA.cellW rfl rfl rfl rfl rfl; (repeat' (first | exact rfl | exact wE rfl rfl | exact wNV rfl | exact wLV rfl | exact wMs rfl rfl rfl rfl rfl | exact wCv rfl rfl | exact wCv' rfl rfl | exact wNil rfl rfl | exact wF rfl (LeC.fl _) | exact wF rfl (LeC.refl _) | apply wV5 rfl | apply wCv rfl | apply wCv' rfl | apply wE rfl | apply wMs rfl rfl rfl rfl | refine wMs rfl rfl ?_ rfl ?_))))) | exact retN))
  rw [h1] at hl
  generalize hK : n % 40 = K
  have hKw : IntKind.i64.wrap ((n : Int).tmod 40) = (K : Int) := by rw [Int.tmod_eq_emod_of_nonneg (by omega), wrap_id (by omega) (by omega)]; omega
  have hK40 : K < 40 := by omega
  have hTs : (strOfNums (List.replicate K (0 : Int))).size = K := by rw [strOfNums_size]; simp
  have ht := text_c (strOfNums (List.replicate K (0 : Int)))
  have hc1 := checkA_c sTable sGet [textV (strOfNums (List.replicate K (0 : Int)))]
  obtain ⟨q1, w1, hf1⟩ := find_get
  obtain ⟨q2, w2, hf2⟩ := find_open
  have hnm : namedS (textV (strOfNums (List.replicate K (0 : Int)))) = (decide ((K : Int) ≥ 1) && decide ((K : Int) ≤ 32)) := by
    show ((3 : Int) == 3 && decide (((strOfNums (List.replicate K (0 : Int))).size : Int) ≥ 1) && decide (((strOfNums (List.replicate K (0 : Int))).size : Int) ≤ 32)) = _
    rw [hTs]; rfl
  rw [checkA_eq, check_name hf1, check_text (by omega), hnm] at hc1
  have hc2 := checkA_c sLedger sOpen [v]
  rw [checkA_eq, check_name hf2] at hc2
  have hg := check1_c v
  (repeat' (first | refine CQ.seq ?_ | refine CQ.block ?_ | ((first | apply CQ.rT hU | apply CQ.rD hU); (· (repeat (first | exact RunL.nil | (apply RunL.op; (first | ((first | apply sv | (apply gv; (· rfl); (· rfl)) | (apply gvB; (· rfl); (· rfl); (· assumption))); (first | exact .callP rfl rfl ta (hkn) | exact .callP rfl rfl ta (hl) | exact vv)) | exact gn rfl rfl rfl | exact gnU rfl rfl | exact gnB rfl rfl (by assumption) rfl | exact so oo | exact gR rfl rfl oo | exact so rr | exact gR rfl rfl rr | exact gRB rfl rfl (by assumption) oo | exact gRB rfl rfl (by assumption) rr))))); (· kernel_rfl); clear hU; intro hU) | refine CQ.condT rfl ?_ | refine CQ.condF rfl ?_ | refine CQ.condT (hbl ‹_›) ?_ | refine CQ.condF (hbl ‹_›) ?_ | refine CQ.ret ?_ | refine CQ.skip ?_ | refine CQ.exit ?_ | (apply CQ.cond rfl <;> intro hb)))
  refine CQ.weak (s' := ⟨mkT [(3, .loc 3 0), (5, .c (.v (.int .i64 K)))], mkM [(3, .box v.ca)]⟩) (by (refine wkS ?_ ?_; (all_goals (repeat' (first | exact wkB | refine wkP ?_ ?_ | exact wkMB | refine wkMP rfl ?_ ?_ | exact wkOr rfl | exact wkB0 | refine wkBx ?_ ?_ | refine wkOa ?_ | exact wr rfl | exact wE rfl rfl | exact wNV rfl | exact wLV rfl | exact wMs rfl rfl rfl rfl rfl | exact wCv rfl rfl | exact wCv' rfl rfl | exact wNil rfl rfl | exact wF rfl (LeC.fl _) | apply wV5 rfl | apply wCv rfl | apply wCv' rfl | apply wE rfl | apply wMs rfl rfl rfl rfl | refine wMs rfl rfl ?_ rfl ?_)))); exact congrArg (fun x => CV.v (.int .i64 x)) hKw) hT ?_
  clear hU
  have hU : Fresh [3] ⟨mkT [(3, .loc 3 0), (5, .c (.v (.int .i64 K)))], mkM [(3, .box v.ca)]⟩ := by exact fr
  have e : ∀ a b : Bool, (if ((0 : Int) != 0) = true then (0 : Int) else if (a && b) = true then 0 else 31) = if (a && b) = true then 0 else 31 := fun _ _ => rfl
  rw [e] at hc1
  cases hge : decide ((K : Int) ≥ 1)
  · cases hle : decide ((K : Int) ≤ 32)
    · rw [hge, hle, show (if (false && false) = true then (0 : Int) else 31) = 31 from rfl] at hc1
      cases hck : (checkS v != 0)
      · rw [hck, if_neg (by decide)] at hc2
        cases h3 : (v.kind == 3) <;> cases h4 : decide ((v.s.size : Int) ≥ 1) <;> cases h5 : decide ((v.s.size : Int) ≤ 32)
        all_goals (have hnv : namedS v = ((v.kind == 3) && decide ((v.s.size : Int) ≥ 1) && decide ((v.s.size : Int) ≤ 32)) := rfl)
        all_goals (rw [h3, h4, h5] at hnv; rw [hnv] at hc2)
        all_goals (
          (repeat' (first | refine CQ.seq ?_ | refine CQ.block ?_ | ((first | apply CQ.rT hU | apply CQ.rD hU); (· (repeat (first | exact RunL.nil | (apply RunL.op; (first | ((first | apply sv | (apply gv; (· rfl); (· rfl)) | (apply gvB; (· rfl); (· rfl); (· assumption))); (first | exact (mkB rfl rfl rfl rfl rfl rfl rfl rfl (by omega)) | exact (.convB rfl rfl rfl rfl rfl rfl rfl) | exact .callP rfl rfl ta (ht) | exact .callP rfl rfl ta (hc1) | exact .callP rfl rfl ta (hc2) | exact .callP rfl rfl ta (hg) | exact vv)) | exact gn rfl rfl rfl | exact gnU rfl rfl | exact gnB rfl rfl (by assumption) rfl | exact so oo | exact gR rfl rfl oo | exact so rr | exact gR rfl rfl rr | exact gRB rfl rfl (by assumption) oo | exact gRB rfl rfl (by assumption) rr))))); (· kernel_rfl); clear hU; intro hU) | refine CQ.condT rfl ?_ | refine CQ.condF rfl ?_ | refine CQ.condT (hbl ‹_›) ?_ | refine CQ.condF (hbl ‹_›) ?_ | refine CQ.ret ?_ | refine CQ.skip ?_ | refine CQ.exit ?_ | (apply CQ.cond rfl <;> intro hb)))
          (repeat' (first | (apply retC; (first | (apply RetA.tmp; (repeat' (first | exact rfl | exact wE rfl rfl | exact wNV rfl | exact wLV rfl | exact wMs rfl rfl rfl rfl rfl | exact wCv rfl rfl | exact wCv' rfl rfl | exact wNil rfl rfl | exact wF rfl (LeC.fl _) | exact wF rfl (LeC.refl _) | apply wV5 rfl | apply wCv rfl | apply wCv' rfl | apply wE rfl | apply wMs rfl rfl rfl rfl | refine wMs rfl rfl ?_ rfl ?_))) | (apply RetA.cellS rfl rfl rfl rfl rfl; (repeat' (first | exact rfl | exact wE rfl rfl | exact wNV rfl | exact wLV rfl | exact wMs rfl rfl rfl rfl rfl | exact wCv rfl rfl | exact wCv' rfl rfl | exact wNil rfl rfl | exact wF rfl (LeC.fl _) | exact wF rfl (LeC.refl _) | apply wV5 rfl | apply wCv rfl | apply wCv' rfl | apply wE rfl | apply wMs rfl rfl rfl rfl | refine wMs rfl rfl ?_ rfl ?_))) | (apply RetA.cellW rfl rfl rfl rfl rfl; (repeat' (first | exact rfl | exact wE rfl rfl | exact wNV rfl | exact wLV rfl | exact wMs rfl rfl rfl rfl rfl | exact wCv rfl rfl | exact wCv' rfl rfl | exact wNil rfl rfl | exact wF rfl (LeC.fl _) | exact wF rfl (LeC.refl _) | apply wV5 rfl | apply wCv rfl | apply wCv' rfl | apply wE rfl | apply wMs rfl rfl rfl rfl | refine wMs rfl rfl ?_ rfl ?_))))) | exact retN)))
        all_goals (rw [h5]; rfl)
      · rw [hck, if_pos rfl] at hc2
        (repeat' (first | refine CQ.seq ?_ | refine CQ.block ?_ | ((first | apply CQ.rT hU | apply CQ.rD hU); (· (repeat (first | exact RunL.nil | (apply RunL.op; (first | ((first | apply sv | (apply gv; (· rfl); (· rfl)) | (apply gvB; (· rfl); (· rfl); (· assumption))); (first | exact (mkB rfl rfl rfl rfl rfl rfl rfl rfl (by omega)) | exact (.convB rfl rfl rfl rfl rfl rfl rfl) | exact .callP rfl rfl ta (ht) | exact .callP rfl rfl ta (hc1) | exact .callP rfl rfl ta (hc2) | exact .callP rfl rfl ta (hg) | exact vv)) | exact gn rfl rfl rfl | exact gnU rfl rfl | exact gnB rfl rfl (by assumption) rfl | exact so oo | exact gR rfl rfl oo | exact so rr | exact gR rfl rfl rr | exact gRB rfl rfl (by assumption) oo | exact gRB rfl rfl (by assumption) rr))))); (· kernel_rfl); clear hU; intro hU) | refine CQ.condT rfl ?_ | refine CQ.condF rfl ?_ | refine CQ.condT (hbl ‹_›) ?_ | refine CQ.condF (hbl ‹_›) ?_ | refine CQ.ret ?_ | refine CQ.skip ?_ | refine CQ.exit ?_ | (apply CQ.cond rfl <;> intro hb)))
        (repeat' (first | (apply retC; (first | (apply RetA.tmp; (repeat' (first | exact rfl | exact wE rfl rfl | exact wNV rfl | exact wLV rfl | exact wMs rfl rfl rfl rfl rfl | exact wCv rfl rfl | exact wCv' rfl rfl | exact wNil rfl rfl | exact wF rfl (LeC.fl _) | exact wF rfl (LeC.refl _) | apply wV5 rfl | apply wCv rfl | apply wCv' rfl | apply wE rfl | apply wMs rfl rfl rfl rfl | refine wMs rfl rfl ?_ rfl ?_))) | (apply RetA.cellS rfl rfl rfl rfl rfl; (repeat' (first | exact rfl | exact wE rfl rfl | exact wNV rfl | exact wLV rfl | exact wMs rfl rfl rfl rfl rfl | exact wCv rfl rfl | exact wCv' rfl rfl | exact wNil rfl rfl | exact wF rfl (LeC.fl _) | exact wF rfl (LeC.refl _) | apply wV5 rfl | apply wCv rfl | apply wCv' rfl | apply wE rfl | apply wMs rfl rfl rfl rfl | refine wMs rfl rfl ?_ rfl ?_))) | (apply RetA.cellW rfl rfl rfl rfl rfl; (repeat' (first | exact rfl | exact wE rfl rfl | exact wNV rfl | exact wLV rfl | exact wMs rfl rfl rfl rfl rfl | exact wCv rfl rfl | exact wCv' rfl rfl | exact wNil rfl rfl | exact wF rfl (LeC.fl _) | exact wF rfl (LeC.refl _) | apply wV5 rfl | apply wCv rfl | apply wCv' rfl | apply wE rfl | apply wMs rfl rfl rfl rfl | refine wMs rfl rfl ?_ rfl ?_))))) | exact retN))
        all_goals (clear hU; simp)
    · rw [hge, hle, show (if (false && true) = true then (0 : Int) else 31) = 31 from rfl] at hc1
      cases hck : (checkS v != 0)
      · rw [hck, if_neg (by decide)] at hc2
        cases h3 : (v.kind == 3) <;> cases h4 : decide ((v.s.size : Int) ≥ 1) <;> cases h5 : decide ((v.s.size : Int) ≤ 32)
        all_goals (have hnv : namedS v = ((v.kind == 3) && decide ((v.s.size : Int) ≥ 1) && decide ((v.s.size : Int) ≤ 32)) := rfl)
        all_goals (rw [h3, h4, h5] at hnv; rw [hnv] at hc2)
        all_goals (
          (repeat' (first | refine CQ.seq ?_ | refine CQ.block ?_ | ((first | apply CQ.rT hU | apply CQ.rD hU); (· (repeat (first | exact RunL.nil | (apply RunL.op; (first | ((first | apply sv | (apply gv; (· rfl); (· rfl)) | (apply gvB; (· rfl); (· rfl); (· assumption))); (first | exact (mkB rfl rfl rfl rfl rfl rfl rfl rfl (by omega)) | exact (.convB rfl rfl rfl rfl rfl rfl rfl) | exact .callP rfl rfl ta (ht) | exact .callP rfl rfl ta (hc1) | exact .callP rfl rfl ta (hc2) | exact .callP rfl rfl ta (hg) | exact vv)) | exact gn rfl rfl rfl | exact gnU rfl rfl | exact gnB rfl rfl (by assumption) rfl | exact so oo | exact gR rfl rfl oo | exact so rr | exact gR rfl rfl rr | exact gRB rfl rfl (by assumption) oo | exact gRB rfl rfl (by assumption) rr))))); (· kernel_rfl); clear hU; intro hU) | refine CQ.condT rfl ?_ | refine CQ.condF rfl ?_ | refine CQ.condT (hbl ‹_›) ?_ | refine CQ.condF (hbl ‹_›) ?_ | refine CQ.ret ?_ | refine CQ.skip ?_ | refine CQ.exit ?_ | (apply CQ.cond rfl <;> intro hb)))
          (repeat' (first | (apply retC; (first | (apply RetA.tmp; (repeat' (first | exact rfl | exact wE rfl rfl | exact wNV rfl | exact wLV rfl | exact wMs rfl rfl rfl rfl rfl | exact wCv rfl rfl | exact wCv' rfl rfl | exact wNil rfl rfl | exact wF rfl (LeC.fl _) | exact wF rfl (LeC.refl _) | apply wV5 rfl | apply wCv rfl | apply wCv' rfl | apply wE rfl | apply wMs rfl rfl rfl rfl | refine wMs rfl rfl ?_ rfl ?_))) | (apply RetA.cellS rfl rfl rfl rfl rfl; (repeat' (first | exact rfl | exact wE rfl rfl | exact wNV rfl | exact wLV rfl | exact wMs rfl rfl rfl rfl rfl | exact wCv rfl rfl | exact wCv' rfl rfl | exact wNil rfl rfl | exact wF rfl (LeC.fl _) | exact wF rfl (LeC.refl _) | apply wV5 rfl | apply wCv rfl | apply wCv' rfl | apply wE rfl | apply wMs rfl rfl rfl rfl | refine wMs rfl rfl ?_ rfl ?_))) | (apply RetA.cellW rfl rfl rfl rfl rfl; (repeat' (first | exact rfl | exact wE rfl rfl | exact wNV rfl | exact wLV rfl | exact wMs rfl rfl rfl rfl rfl | exact wCv rfl rfl | exact wCv' rfl rfl | exact wNil rfl rfl | exact wF rfl (LeC.fl _) | exact wF rfl (LeC.refl _) | apply wV5 rfl | apply wCv rfl | apply wCv' rfl | apply wE rfl | apply wMs rfl rfl rfl rfl | refine wMs rfl rfl ?_ rfl ?_))))) | exact retN)))
        all_goals (rw [h5]; rfl)
      · rw [hck, if_pos rfl] at hc2
        (repeat' (first | refine CQ.seq ?_ | refine CQ.block ?_ | ((first | apply CQ.rT hU | apply CQ.rD hU); (· (repeat (first | exact RunL.nil | (apply RunL.op; (first | ((first | apply sv | (apply gv; (· rfl); (· rfl)) | (apply gvB; (· rfl); (· rfl); (· assumption))); (first | exact (mkB rfl rfl rfl rfl rfl rfl rfl rfl (by omega)) | exact (.convB rfl rfl rfl rfl rfl rfl rfl) | exact .callP rfl rfl ta (ht) | exact .callP rfl rfl ta (hc1) | exact .callP rfl rfl ta (hc2) | exact .callP rfl rfl ta (hg) | exact vv)) | exact gn rfl rfl rfl | exact gnU rfl rfl | exact gnB rfl rfl (by assumption) rfl | exact so oo | exact gR rfl rfl oo | exact so rr | exact gR rfl rfl rr | exact gRB rfl rfl (by assumption) oo | exact gRB rfl rfl (by assumption) rr))))); (· kernel_rfl); clear hU; intro hU) | refine CQ.condT rfl ?_ | refine CQ.condF rfl ?_ | refine CQ.condT (hbl ‹_›) ?_ | refine CQ.condF (hbl ‹_›) ?_ | refine CQ.ret ?_ | refine CQ.skip ?_ | refine CQ.exit ?_ | (apply CQ.cond rfl <;> intro hb)))
        (repeat' (first | (apply retC; (first | (apply RetA.tmp; (repeat' (first | exact rfl | exact wE rfl rfl | exact wNV rfl | exact wLV rfl | exact wMs rfl rfl rfl rfl rfl | exact wCv rfl rfl | exact wCv' rfl rfl | exact wNil rfl rfl | exact wF rfl (LeC.fl _) | exact wF rfl (LeC.refl _) | apply wV5 rfl | apply wCv rfl | apply wCv' rfl | apply wE rfl | apply wMs rfl rfl rfl rfl | refine wMs rfl rfl ?_ rfl ?_))) | (apply RetA.cellS rfl rfl rfl rfl rfl; (repeat' (first | exact rfl | exact wE rfl rfl | exact wNV rfl | exact wLV rfl | exact wMs rfl rfl rfl rfl rfl | exact wCv rfl rfl | exact wCv' rfl rfl | exact wNil rfl rfl | exact wF rfl (LeC.fl _) | exact wF rfl (LeC.refl _) | apply wV5 rfl | apply wCv rfl | apply wCv' rfl | apply wE rfl | apply wMs rfl rfl rfl rfl | refine wMs rfl rfl ?_ rfl ?_))) | (apply RetA.cellW rfl rfl rfl rfl rfl; (repeat' (first | exact rfl | exact wE rfl rfl | exact wNV rfl | exact wLV rfl | exact wMs rfl rfl rfl rfl rfl | exact wCv rfl rfl | exact wCv' rfl rfl | exact wNil rfl rfl | exact wF rfl (LeC.fl _) | exact wF rfl (LeC.refl _) | apply wV5 rfl | apply wCv rfl | apply wCv' rfl | apply wE rfl | apply wMs rfl rfl rfl rfl | refine wMs rfl rfl ?_ rfl ?_))))) | exact retN))
        all_goals (clear hU; simp)
  · cases hle : decide ((K : Int) ≤ 32)
    · rw [hge, hle, show (if (true && false) = true then (0 : Int) else 31) = 31 from rfl] at hc1
      have e9 : (!(((31 : Int) == 0) == decide ((K : Int) ≤ 32))) = false := by rw [hle]; rfl
      cases hck : (checkS v != 0)
      · rw [hck, if_neg (by decide)] at hc2
        cases h3 : (v.kind == 3) <;> cases h4 : decide ((v.s.size : Int) ≥ 1) <;> cases h5 : decide ((v.s.size : Int) ≤ 32)
        all_goals (have hnv : namedS v = ((v.kind == 3) && decide ((v.s.size : Int) ≥ 1) && decide ((v.s.size : Int) ≤ 32)) := rfl)
        all_goals (rw [h3, h4, h5] at hnv; rw [hnv] at hc2)
        all_goals (
          (repeat' (first | refine CQ.seq ?_ | refine CQ.block ?_ | ((first | apply CQ.rT hU | apply CQ.rD hU); (· (repeat (first | exact RunL.nil | (apply RunL.op; (first | ((first | apply sv | (apply gv; (· rfl); (· rfl)) | (apply gvB; (· rfl); (· rfl); (· assumption))); (first | exact (mkB rfl rfl rfl rfl rfl rfl rfl rfl (by omega)) | exact (.convB rfl rfl rfl rfl rfl rfl rfl) | exact .callP rfl rfl ta (ht) | exact .callP rfl rfl ta (hc1) | exact .callP rfl rfl ta (hc2) | exact .callP rfl rfl ta (hg) | exact vv)) | exact gn rfl rfl rfl | exact gnU rfl rfl | exact gnB rfl rfl (by assumption) rfl | exact so oo | exact gR rfl rfl oo | exact so rr | exact gR rfl rfl rr | exact gRB rfl rfl (by assumption) oo | exact gRB rfl rfl (by assumption) rr))))); (· kernel_rfl); clear hU; intro hU) | refine CQ.condT rfl ?_ | refine CQ.condF rfl ?_ | refine CQ.condT (hbl ‹_›) ?_ | refine CQ.condF (hbl ‹_›) ?_ | refine CQ.ret ?_ | refine CQ.skip ?_ | refine CQ.exit ?_ | (apply CQ.cond rfl <;> intro hb)))
          (repeat' (first | (apply retC; (first | (apply RetA.tmp; (repeat' (first | exact rfl | exact wE rfl rfl | exact wNV rfl | exact wLV rfl | exact wMs rfl rfl rfl rfl rfl | exact wCv rfl rfl | exact wCv' rfl rfl | exact wNil rfl rfl | exact wF rfl (LeC.fl _) | exact wF rfl (LeC.refl _) | apply wV5 rfl | apply wCv rfl | apply wCv' rfl | apply wE rfl | apply wMs rfl rfl rfl rfl | refine wMs rfl rfl ?_ rfl ?_))) | (apply RetA.cellS rfl rfl rfl rfl rfl; (repeat' (first | exact rfl | exact wE rfl rfl | exact wNV rfl | exact wLV rfl | exact wMs rfl rfl rfl rfl rfl | exact wCv rfl rfl | exact wCv' rfl rfl | exact wNil rfl rfl | exact wF rfl (LeC.fl _) | exact wF rfl (LeC.refl _) | apply wV5 rfl | apply wCv rfl | apply wCv' rfl | apply wE rfl | apply wMs rfl rfl rfl rfl | refine wMs rfl rfl ?_ rfl ?_))) | (apply RetA.cellW rfl rfl rfl rfl rfl; (repeat' (first | exact rfl | exact wE rfl rfl | exact wNV rfl | exact wLV rfl | exact wMs rfl rfl rfl rfl rfl | exact wCv rfl rfl | exact wCv' rfl rfl | exact wNil rfl rfl | exact wF rfl (LeC.fl _) | exact wF rfl (LeC.refl _) | apply wV5 rfl | apply wCv rfl | apply wCv' rfl | apply wE rfl | apply wMs rfl rfl rfl rfl | refine wMs rfl rfl ?_ rfl ?_))))) | exact retN)))
        all_goals (rw [h5]; rfl)
      · rw [hck, if_pos rfl] at hc2
        (repeat' (first | refine CQ.seq ?_ | refine CQ.block ?_ | ((first | apply CQ.rT hU | apply CQ.rD hU); (· (repeat (first | exact RunL.nil | (apply RunL.op; (first | ((first | apply sv | (apply gv; (· rfl); (· rfl)) | (apply gvB; (· rfl); (· rfl); (· assumption))); (first | exact (mkB rfl rfl rfl rfl rfl rfl rfl rfl (by omega)) | exact (.convB rfl rfl rfl rfl rfl rfl rfl) | exact .callP rfl rfl ta (ht) | exact .callP rfl rfl ta (hc1) | exact .callP rfl rfl ta (hc2) | exact .callP rfl rfl ta (hg) | exact vv)) | exact gn rfl rfl rfl | exact gnU rfl rfl | exact gnB rfl rfl (by assumption) rfl | exact so oo | exact gR rfl rfl oo | exact so rr | exact gR rfl rfl rr | exact gRB rfl rfl (by assumption) oo | exact gRB rfl rfl (by assumption) rr))))); (· kernel_rfl); clear hU; intro hU) | refine CQ.condT rfl ?_ | refine CQ.condF rfl ?_ | refine CQ.condT (hbl ‹_›) ?_ | refine CQ.condF (hbl ‹_›) ?_ | refine CQ.ret ?_ | refine CQ.skip ?_ | refine CQ.exit ?_ | (apply CQ.cond rfl <;> intro hb)))
        (repeat' (first | (apply retC; (first | (apply RetA.tmp; (repeat' (first | exact rfl | exact wE rfl rfl | exact wNV rfl | exact wLV rfl | exact wMs rfl rfl rfl rfl rfl | exact wCv rfl rfl | exact wCv' rfl rfl | exact wNil rfl rfl | exact wF rfl (LeC.fl _) | exact wF rfl (LeC.refl _) | apply wV5 rfl | apply wCv rfl | apply wCv' rfl | apply wE rfl | apply wMs rfl rfl rfl rfl | refine wMs rfl rfl ?_ rfl ?_))) | (apply RetA.cellS rfl rfl rfl rfl rfl; (repeat' (first | exact rfl | exact wE rfl rfl | exact wNV rfl | exact wLV rfl | exact wMs rfl rfl rfl rfl rfl | exact wCv rfl rfl | exact wCv' rfl rfl | exact wNil rfl rfl | exact wF rfl (LeC.fl _) | exact wF rfl (LeC.refl _) | apply wV5 rfl | apply wCv rfl | apply wCv' rfl | apply wE rfl | apply wMs rfl rfl rfl rfl | refine wMs rfl rfl ?_ rfl ?_))) | (apply RetA.cellW rfl rfl rfl rfl rfl; (repeat' (first | exact rfl | exact wE rfl rfl | exact wNV rfl | exact wLV rfl | exact wMs rfl rfl rfl rfl rfl | exact wCv rfl rfl | exact wCv' rfl rfl | exact wNil rfl rfl | exact wF rfl (LeC.fl _) | exact wF rfl (LeC.refl _) | apply wV5 rfl | apply wCv rfl | apply wCv' rfl | apply wE rfl | apply wMs rfl rfl rfl rfl | refine wMs rfl rfl ?_ rfl ?_))))) | exact retN))
        all_goals (clear hU; simp)
    · rw [hge, hle, show (if (true && true) = true then (0 : Int) else 31) = 0 from rfl] at hc1
      have e9 : (!(((0 : Int) == 0) == decide ((K : Int) ≤ 32))) = false := by rw [hle]; rfl
      cases hck : (checkS v != 0)
      · rw [hck, if_neg (by decide)] at hc2
        cases h3 : (v.kind == 3) <;> cases h4 : decide ((v.s.size : Int) ≥ 1) <;> cases h5 : decide ((v.s.size : Int) ≤ 32)
        all_goals (have hnv : namedS v = ((v.kind == 3) && decide ((v.s.size : Int) ≥ 1) && decide ((v.s.size : Int) ≤ 32)) := rfl)
        all_goals (rw [h3, h4, h5] at hnv; rw [hnv] at hc2)
        all_goals (
          (repeat' (first | refine CQ.seq ?_ | refine CQ.block ?_ | ((first | apply CQ.rT hU | apply CQ.rD hU); (· (repeat (first | exact RunL.nil | (apply RunL.op; (first | ((first | apply sv | (apply gv; (· rfl); (· rfl)) | (apply gvB; (· rfl); (· rfl); (· assumption))); (first | exact (mkB rfl rfl rfl rfl rfl rfl rfl rfl (by omega)) | exact (.convB rfl rfl rfl rfl rfl rfl rfl) | exact .callP rfl rfl ta (ht) | exact .callP rfl rfl ta (hc1) | exact .callP rfl rfl ta (hc2) | exact .callP rfl rfl ta (hg) | exact vv)) | exact gn rfl rfl rfl | exact gnU rfl rfl | exact gnB rfl rfl (by assumption) rfl | exact so oo | exact gR rfl rfl oo | exact so rr | exact gR rfl rfl rr | exact gRB rfl rfl (by assumption) oo | exact gRB rfl rfl (by assumption) rr))))); (· kernel_rfl); clear hU; intro hU) | refine CQ.condT rfl ?_ | refine CQ.condF rfl ?_ | refine CQ.condT (hbl ‹_›) ?_ | refine CQ.condF (hbl ‹_›) ?_ | refine CQ.ret ?_ | refine CQ.skip ?_ | refine CQ.exit ?_ | (apply CQ.cond rfl <;> intro hb)))
          (repeat' (first | (apply retC; (first | (apply RetA.tmp; (repeat' (first | exact rfl | exact wE rfl rfl | exact wNV rfl | exact wLV rfl | exact wMs rfl rfl rfl rfl rfl | exact wCv rfl rfl | exact wCv' rfl rfl | exact wNil rfl rfl | exact wF rfl (LeC.fl _) | exact wF rfl (LeC.refl _) | apply wV5 rfl | apply wCv rfl | apply wCv' rfl | apply wE rfl | apply wMs rfl rfl rfl rfl | refine wMs rfl rfl ?_ rfl ?_))) | (apply RetA.cellS rfl rfl rfl rfl rfl; (repeat' (first | exact rfl | exact wE rfl rfl | exact wNV rfl | exact wLV rfl | exact wMs rfl rfl rfl rfl rfl | exact wCv rfl rfl | exact wCv' rfl rfl | exact wNil rfl rfl | exact wF rfl (LeC.fl _) | exact wF rfl (LeC.refl _) | apply wV5 rfl | apply wCv rfl | apply wCv' rfl | apply wE rfl | apply wMs rfl rfl rfl rfl | refine wMs rfl rfl ?_ rfl ?_))) | (apply RetA.cellW rfl rfl rfl rfl rfl; (repeat' (first | exact rfl | exact wE rfl rfl | exact wNV rfl | exact wLV rfl | exact wMs rfl rfl rfl rfl rfl | exact wCv rfl rfl | exact wCv' rfl rfl | exact wNil rfl rfl | exact wF rfl (LeC.fl _) | exact wF rfl (LeC.refl _) | apply wV5 rfl | apply wCv rfl | apply wCv' rfl | apply wE rfl | apply wMs rfl rfl rfl rfl | refine wMs rfl rfl ?_ rfl ?_))))) | exact retN)))
        all_goals (rw [h5]; rfl)
      · rw [hck, if_pos rfl] at hc2
        (repeat' (first | refine CQ.seq ?_ | refine CQ.block ?_ | ((first | apply CQ.rT hU | apply CQ.rD hU); (· (repeat (first | exact RunL.nil | (apply RunL.op; (first | ((first | apply sv | (apply gv; (· rfl); (· rfl)) | (apply gvB; (· rfl); (· rfl); (· assumption))); (first | exact (mkB rfl rfl rfl rfl rfl rfl rfl rfl (by omega)) | exact (.convB rfl rfl rfl rfl rfl rfl rfl) | exact .callP rfl rfl ta (ht) | exact .callP rfl rfl ta (hc1) | exact .callP rfl rfl ta (hc2) | exact .callP rfl rfl ta (hg) | exact vv)) | exact gn rfl rfl rfl | exact gnU rfl rfl | exact gnB rfl rfl (by assumption) rfl | exact so oo | exact gR rfl rfl oo | exact so rr | exact gR rfl rfl rr | exact gRB rfl rfl (by assumption) oo | exact gRB rfl rfl (by assumption) rr))))); (· kernel_rfl); clear hU; intro hU) | refine CQ.condT rfl ?_ | refine CQ.condF rfl ?_ | refine CQ.condT (hbl ‹_›) ?_ | refine CQ.condF (hbl ‹_›) ?_ | refine CQ.ret ?_ | refine CQ.skip ?_ | refine CQ.exit ?_ | (apply CQ.cond rfl <;> intro hb)))
        (repeat' (first | (apply retC; (first | (apply RetA.tmp; (repeat' (first | exact rfl | exact wE rfl rfl | exact wNV rfl | exact wLV rfl | exact wMs rfl rfl rfl rfl rfl | exact wCv rfl rfl | exact wCv' rfl rfl | exact wNil rfl rfl | exact wF rfl (LeC.fl _) | exact wF rfl (LeC.refl _) | apply wV5 rfl | apply wCv rfl | apply wCv' rfl | apply wE rfl | apply wMs rfl rfl rfl rfl | refine wMs rfl rfl ?_ rfl ?_))) | (apply RetA.cellS rfl rfl rfl rfl rfl; (repeat' (first | exact rfl | exact wE rfl rfl | exact wNV rfl | exact wLV rfl | exact wMs rfl rfl rfl rfl rfl | exact wCv rfl rfl | exact wCv' rfl rfl | exact wNil rfl rfl | exact wF rfl (LeC.fl _) | exact wF rfl (LeC.refl _) | apply wV5 rfl | apply wCv rfl | apply wCv' rfl | apply wE rfl | apply wMs rfl rfl rfl rfl | refine wMs rfl rfl ?_ rfl ?_))) | (apply RetA.cellW rfl rfl rfl rfl rfl; (repeat' (first | exact rfl | exact wE rfl rfl | exact wNV rfl | exact wLV rfl | exact wMs rfl rfl rfl rfl rfl | exact wCv rfl rfl | exact wCv' rfl rfl | exact wNil rfl rfl | exact wF rfl (LeC.fl _) | exact wF rfl (LeC.refl _) | apply wV5 rfl | apply wCv rfl | apply wCv' rfl | apply wE rfl | apply wMs rfl rfl rfl rfl | refine wMs rfl rfl ?_ rfl ?_))))) | exact retN))
        all_goals (clear hU; simp)
end Go.Proofs.Ytbjcckjhfjhicaa
