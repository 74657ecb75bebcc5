/- Walks: the law of the steps. -/
import Derived.Test.YtbjcckjhfjhicaaG2
import Derived.Test.YtbjcckjhfjhicaaG4
import Derived.Test.YtbjcckjhfjhicaaS6
import Derived.Test.YtbjcckjhfjhicaaP3
namespace Go.Proofs.Ytbjcckjhfjhicaa
open Go Go.AM
set_option linter.unusedVariables false
set_option maxHeartbeats 4000000
set_option maxRecDepth 100000
set_option linter.unusedSimpArgs false

def textV (s : ByteArray) : V := .mk 3 0 0 s []
def sG : ByteArray := ⟨#[103]⟩
def sM : ByteArray := ⟨#[109]⟩
def s0 : ByteArray := ⟨#[]⟩
def sRun : ByteArray := ⟨#[114, 117, 110]⟩
/-- A step with so many arguments, as far as it is made. -/
def rowX (j : Nat) : List V := [textV sG, textV sM] ++ (List.range j).map fun i => intV' (i : Nat)
def stepX (j : Nat) : V := .mk 4 0 0 ⟨#[]⟩ (rowX j)
theorem rowX_len (j : Nat) : (rowX j).length = 2 + j := by simp [rowX]; omega
theorem rowX_succ (j : Nat) : rowX j ++ [intV' (j : Nat)] = rowX (j + 1) := by simp [rowX, List.range_succ]
theorem listO_b (L : List V) (n : Nat) (hn : L.length = n) (h1 : n ≤ 1000) : Own env.P 30 [.ms 1000000 n] [(1000000, .arr 5 34 (L.map V.cv))] [.agg (outB (.ms 1000000 n))] [(1000000, .arr 5 34 (L.map V.cv))] := by
  refine Own.go' (E := env) Try.func30 rfl rfl rfl (Nat.le_of_ble_eq_true rfl) (Nat.le_of_ble_eq_true rfl) (by simp [Ob.like]) (h := ?_); rintro ⟨w0, T0, L0, n, r0, hn0, hT0⟩ hn hT hU; obtain rfl : n = _ := hn
  have hlm : (L.map V.cv).length = n := by simpa using hn
  (repeat' (first | refine CQ.seq ?_ | refine CQ.block ?_ | ((first | apply CQ.rT hU | apply CQ.rD hU); (· (repeat (first | exact RunL.nil | (apply RunL.op; (first | ((first | apply sv | (apply gv; (· rfl); (· rfl)) | (apply gvB; (· rfl); (· rfl); (· assumption))); (first | exact vv)) | exact gn rfl rfl rfl | exact gnU rfl rfl | exact gnB rfl rfl (by assumption) rfl | exact so oo | exact gR rfl rfl oo | exact so rr | exact gR rfl rfl rr | exact gRB rfl rfl (by assumption) oo | exact gRB rfl rfl (by assumption) rr))))); (· kernel_rfl); clear hU; intro hU) | refine CQ.condT rfl ?_ | refine CQ.condF rfl ?_ | refine CQ.condT (hbl ‹_›) ?_ | refine CQ.condF (hbl ‹_›) ?_ | refine CQ.ret ?_ | refine CQ.skip ?_ | refine CQ.exit ?_ | (apply CQ.cond rfl <;> intro hb)))
  clear hU; refine retP ?_ ?_; all_goals (repeat' (first | exact RetL.nil | (apply RetL.cons; (first | (apply RetA.tmp; (repeat' (first | exact wkMB | refine wkMP rfl ?_ ?_ | exact wkOr rfl | exact wkB0 | refine wkBx ?_ ?_ | refine wkOa ?_ | exact wr rfl | exact wE rfl rfl | exact wNV rfl | exact wLV rfl | exact wMs rfl rfl rfl rfl rfl | exact wCv rfl rfl | exact wCv' rfl rfl | exact wNil rfl rfl | exact wF rfl (LeC.fl _) | apply wV5 rfl | apply wCv rfl | apply wCv' rfl | apply wE rfl | apply wMs rfl rfl rfl rfl | refine wMs rfl rfl ?_ rfl ?_))) | (apply RetA.cellS rfl rfl rfl rfl rfl; (repeat' (first | exact wkMB | refine wkMP rfl ?_ ?_ | exact wkOr rfl | exact wkB0 | refine wkBx ?_ ?_ | refine wkOa ?_ | exact wr rfl | exact wE rfl rfl | exact wNV rfl | exact wLV rfl | exact wMs rfl rfl rfl rfl rfl | exact wCv rfl rfl | exact wCv' rfl rfl | exact wNil rfl rfl | exact wF rfl (LeC.fl _) | apply wV5 rfl | apply wCv rfl | apply wCv' rfl | apply wE rfl | apply wMs rfl rfl rfl rfl | refine wMs rfl rfl ?_ rfl ?_))) | (apply RetA.cellW rfl rfl rfl rfl rfl; (repeat' (first | exact wkMB | refine wkMP rfl ?_ ?_ | exact wkOr rfl | exact wkB0 | refine wkBx ?_ ?_ | refine wkOa ?_ | exact wr rfl | exact wE rfl rfl | exact wNV rfl | exact wLV rfl | exact wMs rfl rfl rfl rfl rfl | exact wCv rfl rfl | exact wCv' rfl rfl | exact wNil rfl rfl | exact wF rfl (LeC.fl _) | apply wV5 rfl | apply wCv rfl | apply wCv' rfl | apply wE rfl | apply wMs rfl rfl rfl rfl | refine wMs rfl rfl ?_ rfl ?_))))) | exact wkMB | refine wkMP rfl ?_ ?_ | exact wkOr rfl | exact wkB0 | refine wkBx ?_ ?_ | refine wkOa ?_ | exact wr rfl | exact wE rfl rfl | exact wNV rfl | exact wLV rfl | exact wMs rfl rfl rfl rfl rfl | exact wCv rfl rfl | exact wCv' rfl rfl | exact wNil rfl rfl | exact wF rfl (LeC.fl _) | apply wV5 rfl | apply wCv rfl | apply wCv' rfl | apply wE rfl | apply wMs rfl rfl rfl rfl | refine wMs rfl rfl ?_ rfl ?_))
  all_goals rfl
theorem listO (i : Nat) (L : List V) (n : Nat) (hn : L.length = n) (h1 : n ≤ 1000) : Own env.P 30 [.ms i n] [(i, .arr 5 34 (L.map V.cv))] [.agg (outB (.ms i n))] [(i, .arr 5 34 (L.map V.cv))] :=
  (listO_b L n hn h1).as [(1000000, i)] nd1 (.cons (.ms rfl) .nil) renm (.cons (.aggs (.cons (.c _) (.cons (.c _) (.cons (.c _) (.cons (.c _) (.cons (.ms rfl) .nil)))))) .nil) renm

/-! what is right -/
theorem step_right {j : Nat} (h : j < 5) : checkS (stepX j) = 0 ∧ stepS (stepX j) = true := by
  match j, h with
  | 0, _ => exact ⟨by kernel_rfl, by kernel_rfl⟩
  | 1, _ => exact ⟨by kernel_rfl, by kernel_rfl⟩
  | 2, _ => exact ⟨by kernel_rfl, by kernel_rfl⟩
  | 3, _ => exact ⟨by kernel_rfl, by kernel_rfl⟩
  | 4, _ => exact ⟨by kernel_rfl, by kernel_rfl⟩
def badX (b : Nat) : V := [textV sG, .mk 4 0 0 ⟨#[]⟩ [textV sG], .mk 4 0 0 ⟨#[]⟩ [textV s0, textV sM]].getD (b - 1) nilV
theorem bad_wrong {b : Nat} (h1 : 1 ≤ b) (h : b < 4) : checkS (badX b) = 0 ∧ stepS (badX b) = false := by
  match b, h1, h with
  | 1, _, _ => exact ⟨by kernel_rfl, by kernel_rfl⟩
  | 2, _, _ => exact ⟨by kernel_rfl, by kernel_rfl⟩
  | 3, _, _ => exact ⟨by kernel_rfl, by kernel_rfl⟩
theorem find_run : ∃ q wr, findS (methR sOrch) sRun = some (q, sS, wr) := by
  rw [show methR sOrch = methROrch by unfold methR; simp only [ByteArray.toList_eq]; rfl]
  unfold findS
  simp only [ByteArray.toList_eq]
  exact ⟨_, _, rfl⟩
theorem firstErr0 {l : List V} (h : ∀ x ∈ l, checkS x = 0) : firstErr l = 0 := by
  unfold firstErr
  have : l.find? (fun v => checkS v != 0) = none := List.find?_eq_none.2 fun x hx => by rw [h x hx]; decide
  rw [this]; rfl
theorem okS_run (l : List V) (h8 : l.length ≤ 8) : okS rightR (sN l.length) l = l.all stepS := by
  have hb : ∀ j, j < l.length → byteAt (sN l.length) j = 115 := by
    intro j hj
    have hj' : j < (sN l.length).size := by rw [sN_size]; exact hj
    unfold byteAt
    rw [getElem?_pos _ j hj']
    have : (sN l.length)[j] = 115 := by
      show (Array.replicate l.length (115 : UInt8))[j]'(by simpa using hj) = 115
      simp
    rw [this]; rfl
  unfold okS
  rw [Bool.eq_iff_iff, List.all_eq_true, List.all_eq_true]
  constructor
  · intro h x hx
    obtain ⟨j, hj, rfl⟩ := List.mem_iff_getElem.1 hx
    have := h j (List.mem_range.2 hj)
    rw [hb j hj, getD_of (List.getElem?_eq_getElem hj)] at this
    exact this
  · intro h j hj
    have hj := List.mem_range.1 hj
    rw [hb j hj, getD_of (List.getElem?_eq_getElem hj)]
    exact h _ (List.getElem_mem hj)
theorem run_check (l : List V) (h : ∀ x ∈ l, checkS x = 0) : checkR sOrch sRun l = if decide ((l.length : Int) < 1) || decide ((l.length : Int) > 8) then 31 else if l.all stepS then 0 else 31 := by
  obtain ⟨q, wr, hf⟩ := find_run
  unfold checkR
  rw [hf]
  simp only [Option.isSome_some, if_true, Option.getD_some, BEq.rfl]
  split
  · rfl
  · rename_i h1
    unfold tailS
    rw [firstErr0 h]
    simp only [Bool.or_eq_true, decide_eq_true_eq] at h1
    rw [okS_run l (by omega)]
    rfl
theorem argsSteps_c (n bad extra : Nat) (hn : n < 256) (hbd : bad < 256) (hex : extra < 256) : Pure env.P 5 [.v (.int .u8 n), .v (.int .u8 bad), .v (.int .u8 extra)] [.v (.bool true)] := by
  refine Pure.go (E := env) Try.func5 rfl rfl rfl (Nat.le_of_ble_eq_true rfl) (Nat.le_of_ble_eq_true rfl) ?_; rintro ⟨w0, T0, L0, n, r0, hn0, hT0⟩ hn hT hU; obtain rfl : n = _ := hn
  have hkn := known7_c
  have htg := text_c sG
  have htm := text_c sM
  have hlo := listO 26 [textV sG, textV sM] 2 rfl (by decide)
  obtain ⟨K, hK⟩ : ∃ K, K = n % 12 := ⟨_, rfl⟩
  obtain ⟨X, hX⟩ : ∃ X, X = extra % 5 := ⟨_, rfl⟩
  have hK12 : K < 12 := by omega
  have hX5 : X < 5 := by omega
  have hKw : IntKind.i64.wrap ((n : Int).tmod 12) = (K : Int) := by rw [Int.tmod_eq_emod_of_nonneg (by omega), wrap_id (by omega) (by omega)]; omega
  have hXw : IntKind.i64.wrap ((extra : Int).tmod 5) = (X : Int) := by rw [Int.tmod_eq_emod_of_nonneg (by omega), wrap_id (by omega) (by omega)]; omega
  (repeat' (first | refine CQ.seq ?_ | refine CQ.block ?_ | ((first | apply CQ.rT hU | apply CQ.rD hU); (· (repeat (first | exact RunL.nil | (apply RunL.op; (first | ((first | apply sv | (apply gv; (· rfl); (· rfl)) | (apply gvB; (· rfl); (· rfl); (· assumption))); (first | exact .callP rfl rfl ta (hkn) | exact vv)) | exact gn rfl rfl rfl | exact gnU rfl rfl | exact gnB rfl rfl (by assumption) rfl | exact so oo | exact gR rfl rfl oo | exact so rr | exact gR rfl rfl rr | exact gRB rfl rfl (by assumption) oo | exact gRB rfl rfl (by assumption) rr))))); (· kernel_rfl); clear hU; intro hU) | refine CQ.condT rfl ?_ | refine CQ.condF rfl ?_ | refine CQ.condT (hbl ‹_›) ?_ | refine CQ.condF (hbl ‹_›) ?_ | refine CQ.ret ?_ | refine CQ.skip ?_ | refine CQ.exit ?_ | (apply CQ.cond rfl <;> intro hb)))
  refine CQ.loop hT (fun k : Nat => match k with | 0 => ⟨mkT [(1, .c (.v (.int .u8 bad))), (2, .c (.v (.int .u8 extra))), (7, .c (.v (.int .i64 K))), (8, .c (.v (.slice none 0 0))), (9, .c (.v (.int .i64 0)))], mkM []⟩ | k + 1 => ⟨mkT [(1, .c (.v (.int .u8 bad))), (2, .c (.v (.int .u8 extra))), (7, .c (.v (.int .i64 K))), (8, .ms 45 (k + 1)), (9, .c (.v (.int .i64 ((k + 1 : Nat) : Int))))], mkM [(45, .arr 5 34 ((List.replicate (k + 1) (V.mk 4 0 0 ⟨#[]⟩ (rowX X))).map V.cv))]⟩) (fun k => k ≤ K) (fun k => K - k) 0 (Nat.zero_le _) ?_ ?_
  · (refine wkS ?_ ?_; (all_goals (repeat' (first | exact wkB | refine wkP ?_ ?_ | exact wkMB | refine wkMP rfl ?_ ?_ | exact wkOr rfl | exact wkB0 | refine wkBx ?_ ?_ | refine wkOa ?_ | exact wr rfl | exact wE rfl rfl | exact wNV rfl | exact wLV rfl | exact wMs rfl rfl rfl rfl rfl | exact wCv rfl rfl | exact wCv' rfl rfl | exact wNil rfl rfl | exact wF rfl (LeC.fl _) | apply wV5 rfl | apply wCv rfl | apply wCv' rfl | apply wE rfl | apply wMs rfl rfl rfl rfl | refine wMs rfl rfl ?_ rfl ?_))))
    all_goals exact congrArg (fun x => CV.v (.int .i64 x)) hKw
  clear hU
  clear hK hX hKw
  rintro (_ | k) hk
  · have hU : Fresh [] ⟨mkT [(1, .c (.v (.int .u8 bad))), (2, .c (.v (.int .u8 extra))), (7, .c (.v (.int .i64 K))), (8, .c (.v (.slice none 0 0))), (9, .c (.v (.int .i64 0)))], mkM []⟩ := by exact fr
    cases hb : decide ((0 : Int) < (K : Int))
    · obtain rfl : K = 0 := by simp at hb; omega
      have hc := checkA_c sOrch sRun []
      rw [checkA_eq, run_check [] (fun x hx => by cases hx), if_pos (by decide)] at hc
      (repeat' (first | refine CQ.seq ?_ | refine CQ.block ?_ | ((first | apply CQ.rT hU | apply CQ.rD hU); (· (repeat (first | exact RunL.nil | (apply RunL.op; (first | ((first | apply sv | (apply gv; (· rfl); (· rfl)) | (apply gvB; (· rfl); (· rfl); (· assumption))); (first | exact .callP rfl rfl ta (hc) | exact vv)) | exact gn rfl rfl rfl | exact gnU rfl rfl | exact gnB rfl rfl (by assumption) rfl | exact so oo | exact gR rfl rfl oo | exact so rr | exact gR rfl rfl rr | exact gRB rfl rfl (by assumption) oo | exact gRB rfl rfl (by assumption) rr))))); (· kernel_rfl); clear hU; intro hU) | refine CQ.condT rfl ?_ | refine CQ.condF rfl ?_ | refine CQ.condT (hbl ‹_›) ?_ | refine CQ.condF (hbl ‹_›) ?_ | refine CQ.ret ?_ | refine CQ.skip ?_ | refine CQ.exit ?_ | (apply CQ.cond rfl <;> intro hb)))
      (repeat' (first | (apply retC; (first | (apply RetA.tmp; (repeat' (first | exact rfl | exact wE rfl rfl | exact wNV rfl | exact wLV rfl | exact wMs rfl rfl rfl rfl rfl | exact wCv rfl rfl | exact wCv' rfl rfl | exact wNil rfl rfl | exact wF rfl (LeC.fl _) | exact wF rfl (LeC.refl _) | apply wV5 rfl | apply wCv rfl | apply wCv' rfl | apply wE rfl | apply wMs rfl rfl rfl rfl | refine wMs rfl rfl ?_ rfl ?_))) | (apply RetA.cellS rfl rfl rfl rfl rfl; (repeat' (first | exact rfl | exact wE rfl rfl | exact wNV rfl | exact wLV rfl | exact wMs rfl rfl rfl rfl rfl | exact wCv rfl rfl | exact wCv' rfl rfl | exact wNil rfl rfl | exact wF rfl (LeC.fl _) | exact wF rfl (LeC.refl _) | apply wV5 rfl | apply wCv rfl | apply wCv' rfl | apply wE rfl | apply wMs rfl rfl rfl rfl | refine wMs rfl rfl ?_ rfl ?_))) | (apply RetA.cellW rfl rfl rfl rfl rfl; (repeat' (first | exact rfl | exact wE rfl rfl | exact wNV rfl | exact wLV rfl | exact wMs rfl rfl rfl rfl rfl | exact wCv rfl rfl | exact wCv' rfl rfl | exact wNil rfl rfl | exact wF rfl (LeC.fl _) | exact wF rfl (LeC.refl _) | apply wV5 rfl | apply wCv rfl | apply wCv' rfl | apply wE rfl | apply wMs rfl rfl rfl rfl | refine wMs rfl rfl ?_ rfl ?_))))) | exact retN))
    · have hb' : 0 < K := by simp at hb; omega
      clear hb
      have hb : decide ((0 : Int) < (K : Int)) = true := by simp; omega
      (repeat' (first | refine CQ.seq ?_ | refine CQ.block ?_ | ((first | apply CQ.rT hU | apply CQ.rD hU); (· (repeat (first | exact RunL.nil | (apply RunL.op; (first | ((first | apply sv | (apply gv; (· rfl); (· rfl)) | (apply gvB; (· rfl); (· rfl); (· assumption))); (first | exact vv)) | exact gn rfl rfl rfl | exact gnU rfl rfl | exact gnB rfl rfl (by assumption) rfl | exact so oo | exact gR rfl rfl oo | exact so rr | exact gR rfl rfl rr | exact gRB rfl rfl (by assumption) oo | exact gRB rfl rfl (by assumption) rr))))); (· kernel_rfl); clear hU; intro hU) | refine CQ.condT rfl ?_ | refine CQ.condF rfl ?_ | refine CQ.condT (hbl ‹_›) ?_ | refine CQ.condF (hbl ‹_›) ?_ | refine CQ.ret ?_ | refine CQ.skip ?_ | refine CQ.exit ?_ | (apply CQ.cond rfl <;> intro hb)))
      first | apply CQ.rT hU | apply CQ.rD hU
      · apply RunL.op
        · apply sv; exact .callP rfl rfl ta htg
        apply RunL.op
        · apply sv; exact .callP rfl rfl ta htm
        apply RunL.op
        · apply so; exact bsMV (vs := [textV sG, textV sM]) (.cons (tE rfl) (.cons (tE rfl) .nil)) rfl rfl rfl rfl rfl rfl rfl
        (repeat (first | exact RunL.nil | (apply RunL.op; (first | ((first | apply sv | (apply gv; (· rfl); (· rfl)) | (apply gvB; (· rfl); (· rfl); (· assumption))); (first | exact vv)) | exact gn rfl rfl rfl | exact gnU rfl rfl | exact gnB rfl rfl (by assumption) rfl | exact so ((coP1 rfl hlo rfl tas)) | exact gR rfl rfl ((coP1 rfl hlo rfl tas)) | exact gRB rfl rfl (by assumption) ((coP1 rfl hlo rfl tas)) | exact so oo | exact gR rfl rfl oo | exact so rr | exact gR rfl rfl rr | exact gRB rfl rfl (by assumption) oo | exact gRB rfl rfl (by assumption) rr))))
      · kernel_rfl
      clear hU; intro hU
      (repeat' (first | refine CQ.seq ?_ | refine CQ.block ?_ | ((first | apply CQ.rT hU | apply CQ.rD hU); (· (repeat (first | exact RunL.nil | (apply RunL.op; (first | ((first | apply sv | (apply gv; (· rfl); (· rfl)) | (apply gvB; (· rfl); (· rfl); (· assumption))); (first | exact vv)) | exact gn rfl rfl rfl | exact gnU rfl rfl | exact gnB rfl rfl (by assumption) rfl | exact so oo | exact gR rfl rfl oo | exact so rr | exact gR rfl rfl rr | exact gRB rfl rfl (by assumption) oo | exact gRB rfl rfl (by assumption) rr))))); (· kernel_rfl); clear hU; intro hU) | refine CQ.condT rfl ?_ | refine CQ.condF rfl ?_ | refine CQ.condT (hbl ‹_›) ?_ | refine CQ.condF (hbl ‹_›) ?_ | refine CQ.ret ?_ | refine CQ.skip ?_ | refine CQ.exit ?_ | (apply CQ.cond rfl <;> intro hb)))
      refine CQ.loop hT (fun j : Nat => match j with | 0 => ⟨mkT [(1, .c (.v (.int .u8 bad))), (2, .c (.v (.int .u8 extra))), (7, .c (.v (.int .i64 K))), (8, .c (.v (.slice none 0 0))), (9, .c (.v (.int .i64 0))), (10, .loc 10 0), (11, .c (.v (.int .i64 0)))], mkM [(26, .arr 5 34 ((rowX 0).map V.cv)), (10, .box (outB (.ms 26 2)))]⟩ | j + 1 => ⟨mkT [(1, .c (.v (.int .u8 bad))), (2, .c (.v (.int .u8 extra))), (7, .c (.v (.int .i64 K))), (8, .c (.v (.slice none 0 0))), (9, .c (.v (.int .i64 0))), (10, .loc 10 0), (11, .c (.v (.int .i64 ((j + 1 : Nat) : Int))))], mkM [(40, .arr 5 34 ((rowX (j + 1)).map V.cv)), (10, .box (outB (.ms 40 (2 + (j + 1)))))]⟩) (fun j => j ≤ X) (fun j => X - j) 0 (Nat.zero_le _) ?_ ?_
      · (refine wkS ?_ ?_; (all_goals (repeat' (first | exact wkB | refine wkP ?_ ?_ | exact wkMB | refine wkMP rfl ?_ ?_ | exact wkOr rfl | exact wkB0 | refine wkBx ?_ ?_ | refine wkOa ?_ | exact wr rfl | exact wE rfl rfl | exact wNV rfl | exact wLV rfl | exact wMs rfl rfl rfl rfl rfl | exact wCv rfl rfl | exact wCv' rfl rfl | exact wNil rfl rfl | exact wF rfl (LeC.fl _) | apply wV5 rfl | apply wCv rfl | apply wCv' rfl | apply wE rfl | apply wMs rfl rfl rfl rfl | refine wMs rfl rfl ?_ rfl ?_))))
      clear hU
      rintro (_ | j) hj
      · have hU : Fresh [26, 10] ⟨mkT [(1, .c (.v (.int .u8 bad))), (2, .c (.v (.int .u8 extra))), (7, .c (.v (.int .i64 K))), (8, .c (.v (.slice none 0 0))), (9, .c (.v (.int .i64 0))), (10, .loc 10 0), (11, .c (.v (.int .i64 0)))], mkM [(26, .arr 5 34 ((rowX 0).map V.cv)), (10, .box (outB (.ms 26 2)))]⟩ := by exact fr
        have hrl : (rowX 0).length = 2 := rfl
        cases hb2 : decide ((0 : Int) < IntKind.i64.wrap ((extra : Int).tmod 5))
        · obtain rfl : X = 0 := by rw [hXw] at hb2; simp at hb2; omega
          clear hU
          refine CQ.weak (s' := ⟨mkT [(1, .c (.v (.int .u8 bad))), (2, .c (.v (.int .u8 extra))), (7, .c (.v (.int .i64 K))), (8, .c (.v (.slice none 0 0))), (9, .c (.v (.int .i64 0))), (10, .loc 10 0), (11, .c (.v (.int .i64 0)))], mkM [(10, .box (outB (.c (.sl 5 ((rowX 0).map V.cv)))))]⟩) ?_ hT ?_
          · (refine wkS ?_ ?_; (all_goals (repeat' (first | exact wkB | refine wkP ?_ ?_ | exact wkMB | refine wkMP rfl ?_ ?_ | exact wkOr rfl | exact wkB0 | refine wkBx ?_ ?_ | refine wkOa ?_ | exact wr rfl | exact wE rfl rfl | exact wNV rfl | exact wLV rfl | exact wMs rfl rfl rfl rfl rfl | exact wCv rfl rfl | exact wCv' rfl rfl | exact wNil rfl rfl | exact wF rfl (LeC.fl _) | apply wV5 rfl | apply wCv rfl | apply wCv' rfl | apply wE rfl | apply wMs rfl rfl rfl rfl | refine wMs rfl rfl ?_ rfl ?_))))
            all_goals first | rfl | (simp [rowX]; done) | (simp [rowX]; omega)
          have hU : Fresh [10] ⟨mkT [(1, .c (.v (.int .u8 bad))), (2, .c (.v (.int .u8 extra))), (7, .c (.v (.int .i64 K))), (8, .c (.v (.slice none 0 0))), (9, .c (.v (.int .i64 0))), (10, .loc 10 0), (11, .c (.v (.int .i64 0)))], mkM [(10, .box (outB (.c (.sl 5 ((rowX 0).map V.cv)))))]⟩ := by exact fr
          (repeat' (first | refine CQ.seq ?_ | refine CQ.block ?_ | ((first | apply CQ.rT hU | apply CQ.rD hU); (· (repeat (first | exact RunL.nil | (apply RunL.op; (first | ((first | apply sv | (apply gv; (· rfl); (· rfl)) | (apply gvB; (· rfl); (· rfl); (· assumption))); (first | exact vv)) | exact gn rfl rfl rfl | exact gnU rfl rfl | exact gnB rfl rfl (by assumption) rfl | exact so oo | exact gR rfl rfl oo | exact so rr | exact gR rfl rfl rr | exact gRB rfl rfl (by assumption) oo | exact gRB rfl rfl (by assumption) rr))))); (· kernel_rfl); clear hU; intro hU) | refine CQ.condT rfl ?_ | refine CQ.condF rfl ?_ | refine CQ.condT (hbl ‹_›) ?_ | refine CQ.condF (hbl ‹_›) ?_ | refine CQ.ret ?_ | refine CQ.skip ?_ | refine CQ.exit ?_ | (apply CQ.cond rfl <;> intro hb)))
          refine ⟨1, by omega, by omega, ?_⟩
          (refine wkS ?_ ?_; (all_goals (repeat' (first | exact wkB | refine wkP ?_ ?_ | exact wkMB | refine wkMP rfl ?_ ?_ | exact wkOr rfl | exact wkB0 | refine wkBx ?_ ?_ | refine wkOa ?_ | exact wr rfl | exact wE rfl rfl | exact wNV rfl | exact wLV rfl | exact wMs rfl rfl rfl rfl rfl | exact wCv rfl rfl | exact wCv' rfl rfl | exact wNil rfl rfl | exact wF rfl (LeC.fl _) | apply wV5 rfl | apply wCv rfl | apply wCv' rfl | apply wE rfl | apply wMs rfl rfl rfl rfl | refine wMs rfl rfl ?_ rfl ?_))))
          all_goals first | rfl | (rw [wrap_id (by omega) (by omega)]; rfl) | (rw [← List.replicate_succ']; done) | (rw [List.replicate_succ' (n := k + 1)]; rfl)
        · have hjX : 0 < X := by rw [hXw] at hb2; simp at hb2; omega
          have hin := int_c (0)
          have hl3 : ((rowX 0 ++ [intV' (0)]).map V.cv).length = 2 + [intV' (0)].length := by simp [hrl]
          have hbb : 2 + [intV' (0)].length ≤ 1000000 := by simp <;> omega
          (repeat' (first | refine CQ.seq ?_ | refine CQ.block ?_ | ((first | apply CQ.rT hU | apply CQ.rD hU); (· (repeat (first | exact RunL.nil | (apply RunL.op; (first | ((first | apply sv | (apply gv; (· rfl); (· rfl)) | (apply gvB; (· rfl); (· rfl); (· assumption))); (first | exact .callP rfl rfl ta (hin) | exact vv)) | exact gn rfl rfl rfl | exact gnU rfl rfl | exact gnB rfl rfl (by assumption) rfl | exact so ((apM (xs := rowX 0) (ys := [intV' (0)]) rfl rfl hrl rfl rfl rfl rfl rfl rfl hbb (Nat.le_of_ble_eq_true rfl))) | exact gR rfl rfl ((apM (xs := rowX 0) (ys := [intV' (0)]) rfl rfl hrl rfl rfl rfl rfl rfl rfl hbb (Nat.le_of_ble_eq_true rfl))) | exact gRB rfl rfl (by assumption) ((apM (xs := rowX 0) (ys := [intV' (0)]) rfl rfl hrl rfl rfl rfl rfl rfl rfl hbb (Nat.le_of_ble_eq_true rfl))) | exact so oo | exact gR rfl rfl oo | exact so rr | exact gR rfl rfl rr | exact gRB rfl rfl (by assumption) oo | exact gRB rfl rfl (by assumption) rr))))); (· kernel_rfl); clear hU; intro hU) | refine CQ.condT rfl ?_ | refine CQ.condF rfl ?_ | refine CQ.condT (hbl ‹_›) ?_ | refine CQ.condF (hbl ‹_›) ?_ | refine CQ.ret ?_ | refine CQ.skip ?_ | refine CQ.exit ?_ | (apply CQ.cond rfl <;> intro hb)))
          refine ⟨1, by omega, by omega, ?_⟩
          (refine wkS ?_ ?_; (all_goals (repeat' (first | exact wkB | refine wkP ?_ ?_ | exact wkMB | refine wkMP rfl ?_ ?_ | exact wkOr rfl | exact wkB0 | refine wkBx ?_ ?_ | refine wkOa ?_ | exact wr rfl | exact wE rfl rfl | exact wNV rfl | exact wLV rfl | exact wMs rfl rfl rfl rfl rfl | exact wCv rfl rfl | exact wCv' rfl rfl | exact wNil rfl rfl | exact wF rfl (LeC.fl _) | apply wV5 rfl | apply wCv rfl | apply wCv' rfl | apply wE rfl | apply wMs rfl rfl rfl rfl | refine wMs rfl rfl ?_ rfl ?_))))
          all_goals first | rfl | (rw [wrap_id (by omega) (by omega)]; rfl) | exact congrArg (List.map V.cv) (rowX_succ (j + 1))
      · have hU : Fresh [40, 10] ⟨mkT [(1, .c (.v (.int .u8 bad))), (2, .c (.v (.int .u8 extra))), (7, .c (.v (.int .i64 K))), (8, .c (.v (.slice none 0 0))), (9, .c (.v (.int .i64 0))), (10, .loc 10 0), (11, .c (.v (.int .i64 ((j + 1 : Nat) : Int))))], mkM [(40, .arr 5 34 ((rowX (j + 1)).map V.cv)), (10, .box (outB (.ms 40 (2 + (j + 1)))))]⟩ := by exact fr
        have hrl : (rowX (j + 1)).length = 2 + (j + 1) := rowX_len _
        cases hb2 : decide ((((j + 1 : Nat) : Int) : Int) < IntKind.i64.wrap ((extra : Int).tmod 5))
        · obtain rfl : X = (j + 1) := by rw [hXw] at hb2; simp at hb2; omega
          clear hU
          refine CQ.weak (s' := ⟨mkT [(1, .c (.v (.int .u8 bad))), (2, .c (.v (.int .u8 extra))), (7, .c (.v (.int .i64 K))), (8, .c (.v (.slice none 0 0))), (9, .c (.v (.int .i64 0))), (10, .loc 10 0), (11, .c (.v (.int .i64 ((j + 1 : Nat) : Int))))], mkM [(10, .box (outB (.c (.sl 5 ((rowX (j + 1)).map V.cv)))))]⟩) ?_ hT ?_
          · (refine wkS ?_ ?_; (all_goals (repeat' (first | exact wkB | refine wkP ?_ ?_ | exact wkMB | refine wkMP rfl ?_ ?_ | exact wkOr rfl | exact wkB0 | refine wkBx ?_ ?_ | refine wkOa ?_ | exact wr rfl | exact wE rfl rfl | exact wNV rfl | exact wLV rfl | exact wMs rfl rfl rfl rfl rfl | exact wCv rfl rfl | exact wCv' rfl rfl | exact wNil rfl rfl | exact wF rfl (LeC.fl _) | apply wV5 rfl | apply wCv rfl | apply wCv' rfl | apply wE rfl | apply wMs rfl rfl rfl rfl | refine wMs rfl rfl ?_ rfl ?_))))
            all_goals first | rfl | (simp [rowX]; done) | (simp [rowX]; omega)
          have hU : Fresh [10] ⟨mkT [(1, .c (.v (.int .u8 bad))), (2, .c (.v (.int .u8 extra))), (7, .c (.v (.int .i64 K))), (8, .c (.v (.slice none 0 0))), (9, .c (.v (.int .i64 0))), (10, .loc 10 0), (11, .c (.v (.int .i64 ((j + 1 : Nat) : Int))))], mkM [(10, .box (outB (.c (.sl 5 ((rowX (j + 1)).map V.cv)))))]⟩ := by exact fr
          (repeat' (first | refine CQ.seq ?_ | refine CQ.block ?_ | ((first | apply CQ.rT hU | apply CQ.rD hU); (· (repeat (first | exact RunL.nil | (apply RunL.op; (first | ((first | apply sv | (apply gv; (· rfl); (· rfl)) | (apply gvB; (· rfl); (· rfl); (· assumption))); (first | exact vv)) | exact gn rfl rfl rfl | exact gnU rfl rfl | exact gnB rfl rfl (by assumption) rfl | exact so oo | exact gR rfl rfl oo | exact so rr | exact gR rfl rfl rr | exact gRB rfl rfl (by assumption) oo | exact gRB rfl rfl (by assumption) rr))))); (· kernel_rfl); clear hU; intro hU) | refine CQ.condT rfl ?_ | refine CQ.condF rfl ?_ | refine CQ.condT (hbl ‹_›) ?_ | refine CQ.condF (hbl ‹_›) ?_ | refine CQ.ret ?_ | refine CQ.skip ?_ | refine CQ.exit ?_ | (apply CQ.cond rfl <;> intro hb)))
          refine ⟨1, by omega, by omega, ?_⟩
          (refine wkS ?_ ?_; (all_goals (repeat' (first | exact wkB | refine wkP ?_ ?_ | exact wkMB | refine wkMP rfl ?_ ?_ | exact wkOr rfl | exact wkB0 | refine wkBx ?_ ?_ | refine wkOa ?_ | exact wr rfl | exact wE rfl rfl | exact wNV rfl | exact wLV rfl | exact wMs rfl rfl rfl rfl rfl | exact wCv rfl rfl | exact wCv' rfl rfl | exact wNil rfl rfl | exact wF rfl (LeC.fl _) | apply wV5 rfl | apply wCv rfl | apply wCv' rfl | apply wE rfl | apply wMs rfl rfl rfl rfl | refine wMs rfl rfl ?_ rfl ?_))))
          all_goals first | rfl | (rw [wrap_id (by omega) (by omega)]; rfl) | (rw [← List.replicate_succ']; done) | (rw [List.replicate_succ' (n := k + 1)]; rfl)
        · have hjX : (j + 1) < X := by rw [hXw] at hb2; simp at hb2; omega
          have hin := int_c (((j + 1 : Nat) : Int))
          have hl3 : ((rowX (j + 1) ++ [intV' (((j + 1 : Nat) : Int))]).map V.cv).length = 2 + (j + 1) + [intV' (((j + 1 : Nat) : Int))].length := by simp [hrl]
          have hbb : 2 + (j + 1) + [intV' (((j + 1 : Nat) : Int))].length ≤ 1000000 := by simp <;> omega
          (repeat' (first | refine CQ.seq ?_ | refine CQ.block ?_ | ((first | apply CQ.rT hU | apply CQ.rD hU); (· (repeat (first | exact RunL.nil | (apply RunL.op; (first | ((first | apply sv | (apply gv; (· rfl); (· rfl)) | (apply gvB; (· rfl); (· rfl); (· assumption))); (first | exact .callP rfl rfl ta (hin) | exact vv)) | exact gn rfl rfl rfl | exact gnU rfl rfl | exact gnB rfl rfl (by assumption) rfl | exact so ((apM (xs := rowX (j + 1)) (ys := [intV' (((j + 1 : Nat) : Int))]) rfl rfl hrl rfl rfl rfl rfl rfl rfl hbb (Nat.le_of_ble_eq_true rfl))) | exact gR rfl rfl ((apM (xs := rowX (j + 1)) (ys := [intV' (((j + 1 : Nat) : Int))]) rfl rfl hrl rfl rfl rfl rfl rfl rfl hbb (Nat.le_of_ble_eq_true rfl))) | exact gRB rfl rfl (by assumption) ((apM (xs := rowX (j + 1)) (ys := [intV' (((j + 1 : Nat) : Int))]) rfl rfl hrl rfl rfl rfl rfl rfl rfl hbb (Nat.le_of_ble_eq_true rfl))) | exact so oo | exact gR rfl rfl oo | exact so rr | exact gR rfl rfl rr | exact gRB rfl rfl (by assumption) oo | exact gRB rfl rfl (by assumption) rr))))); (· kernel_rfl); clear hU; intro hU) | refine CQ.condT rfl ?_ | refine CQ.condF rfl ?_ | refine CQ.condT (hbl ‹_›) ?_ | refine CQ.condF (hbl ‹_›) ?_ | refine CQ.ret ?_ | refine CQ.skip ?_ | refine CQ.exit ?_ | (apply CQ.cond rfl <;> intro hb)))
          refine ⟨j + 2, by omega, by omega, ?_⟩
          (refine wkS ?_ ?_; (all_goals (repeat' (first | exact wkB | refine wkP ?_ ?_ | exact wkMB | refine wkMP rfl ?_ ?_ | exact wkOr rfl | exact wkB0 | refine wkBx ?_ ?_ | refine wkOa ?_ | exact wr rfl | exact wE rfl rfl | exact wNV rfl | exact wLV rfl | exact wMs rfl rfl rfl rfl rfl | exact wCv rfl rfl | exact wCv' rfl rfl | exact wNil rfl rfl | exact wF rfl (LeC.fl _) | apply wV5 rfl | apply wCv rfl | apply wCv' rfl | apply wE rfl | apply wMs rfl rfl rfl rfl | refine wMs rfl rfl ?_ rfl ?_))))
          all_goals first | rfl | (rw [wrap_id (by omega) (by omega)]; rfl) | exact congrArg (List.map V.cv) (rowX_succ (j + 1))
  · have hU : Fresh [45] ⟨mkT [(1, .c (.v (.int .u8 bad))), (2, .c (.v (.int .u8 extra))), (7, .c (.v (.int .i64 K))), (8, .ms 45 (k + 1)), (9, .c (.v (.int .i64 ((k + 1 : Nat) : Int))))], mkM [(45, .arr 5 34 ((List.replicate (k + 1) (V.mk 4 0 0 ⟨#[]⟩ (rowX X))).map V.cv))]⟩ := by exact fr
    cases hb : decide (((k + 1 : Nat) : Int) < (K : Int))
    · obtain rfl : K = k + 1 := by simp at hb; omega
      obtain ⟨st, hst⟩ : ∃ x, x = V.mk 4 0 0 ⟨#[]⟩ (rowX X) := ⟨_, rfl⟩
      have hstr : checkS st = 0 ∧ stepS st = true := by rw [hst]; exact step_right hX5
      have hl0 : (List.replicate (k + 1) st).length = k + 1 := List.length_replicate ..
      have hlm : ((List.replicate (k + 1) st).map V.cv).length = k + 1 := by simp
      have hck : ∀ x ∈ List.replicate (k + 1) st, checkS x = 0 := fun x hx => by rw [List.eq_of_mem_replicate hx]; exact hstr.1
      have hal : (List.replicate (k + 1) st).all stepS = true := List.all_eq_true.2 fun x hx => by rw [List.eq_of_mem_replicate hx]; exact hstr.2
      have hge : decide (((k + 1 : Nat) : Int) ≥ 1) = true := by simp; omega
      rw [← hst] at hU ⊢
      cases hle : decide (((k + 1 : Nat) : Int) ≤ 8)
      · have hc := checkA_c sOrch sRun (List.replicate (k + 1) st)
        rw [checkA_eq, run_check _ hck, hl0, if_pos (by simp at hle ⊢; omega)] at hc
        (repeat' (first | refine CQ.seq ?_ | refine CQ.block ?_ | ((first | apply CQ.rT hU | apply CQ.rD hU); (· (repeat (first | exact RunL.nil | (apply RunL.op; (first | ((first | apply sv | (apply gv; (· rfl); (· rfl)) | (apply gvB; (· rfl); (· rfl); (· assumption))); (first | exact (cB rfl hc rfl (.c (tE rfl) (.c (tE rfl) (.ms rfl (by assumption) .nil)))) | exact vv)) | exact gn rfl rfl rfl | exact gnU rfl rfl | exact gnB rfl rfl (by assumption) rfl | exact so oo | exact gR rfl rfl oo | exact so rr | exact gR rfl rfl rr | exact gRB rfl rfl (by assumption) oo | exact gRB rfl rfl (by assumption) rr))))); (· kernel_rfl); clear hU; intro hU) | refine CQ.condT rfl ?_ | refine CQ.condF rfl ?_ | refine CQ.condT (hbl ‹_›) ?_ | refine CQ.condF (hbl ‹_›) ?_ | refine CQ.ret ?_ | refine CQ.skip ?_ | refine CQ.exit ?_ | (apply CQ.cond rfl <;> intro hb)))
        (repeat' (first | (apply retC; (first | (apply RetA.tmp; (repeat' (first | exact rfl | exact wE rfl rfl | exact wNV rfl | exact wLV rfl | exact wMs rfl rfl rfl rfl rfl | exact wCv rfl rfl | exact wCv' rfl rfl | exact wNil rfl rfl | exact wF rfl (LeC.fl _) | exact wF rfl (LeC.refl _) | apply wV5 rfl | apply wCv rfl | apply wCv' rfl | apply wE rfl | apply wMs rfl rfl rfl rfl | refine wMs rfl rfl ?_ rfl ?_))) | (apply RetA.cellS rfl rfl rfl rfl rfl; (repeat' (first | exact rfl | exact wE rfl rfl | exact wNV rfl | exact wLV rfl | exact wMs rfl rfl rfl rfl rfl | exact wCv rfl rfl | exact wCv' rfl rfl | exact wNil rfl rfl | exact wF rfl (LeC.fl _) | exact wF rfl (LeC.refl _) | apply wV5 rfl | apply wCv rfl | apply wCv' rfl | apply wE rfl | apply wMs rfl rfl rfl rfl | refine wMs rfl rfl ?_ rfl ?_))) | (apply RetA.cellW rfl rfl rfl rfl rfl; (repeat' (first | exact rfl | exact wE rfl rfl | exact wNV rfl | exact wLV rfl | exact wMs rfl rfl rfl rfl rfl | exact wCv rfl rfl | exact wCv' rfl rfl | exact wNil rfl rfl | exact wF rfl (LeC.fl _) | exact wF rfl (LeC.refl _) | apply wV5 rfl | apply wCv rfl | apply wCv' rfl | apply wE rfl | apply wMs rfl rfl rfl rfl | refine wMs rfl rfl ?_ rfl ?_))))) | exact retN))
        all_goals (rw [hle]; rfl)
      have hn8 : ¬ ((decide (((k + 1 : Nat) : Int) < 1) || decide (((k + 1 : Nat) : Int) > 8)) = true) := by simp at hle ⊢; omega
      cases hbd : decide ((bad : Int).tmod 4 > 0)
      · have hc := checkA_c sOrch sRun (List.replicate (k + 1) st)
        rw [checkA_eq, run_check _ hck, hl0, if_neg hn8, hal, if_pos rfl] at hc
        (repeat' (first | refine CQ.seq ?_ | refine CQ.block ?_ | ((first | apply CQ.rT hU | apply CQ.rD hU); (· (repeat (first | exact RunL.nil | (apply RunL.op; (first | ((first | apply sv | (apply gv; (· rfl); (· rfl)) | (apply gvB; (· rfl); (· rfl); (· assumption))); (first | exact (cB rfl hc rfl (.c (tE rfl) (.c (tE rfl) (.ms rfl (by assumption) .nil)))) | exact vv)) | exact gn rfl rfl rfl | exact gnU rfl rfl | exact gnB rfl rfl (by assumption) rfl | exact so oo | exact gR rfl rfl oo | exact so rr | exact gR rfl rfl rr | exact gRB rfl rfl (by assumption) oo | exact gRB rfl rfl (by assumption) rr))))); (· kernel_rfl); clear hU; intro hU) | refine CQ.condT rfl ?_ | refine CQ.condF rfl ?_ | refine CQ.condT (hbl ‹_›) ?_ | refine CQ.condF (hbl ‹_›) ?_ | refine CQ.ret ?_ | refine CQ.skip ?_ | refine CQ.exit ?_ | (apply CQ.cond rfl <;> intro hb)))
        (repeat' (first | (apply retC; (first | (apply RetA.tmp; (repeat' (first | exact rfl | exact wE rfl rfl | exact wNV rfl | exact wLV rfl | exact wMs rfl rfl rfl rfl rfl | exact wCv rfl rfl | exact wCv' rfl rfl | exact wNil rfl rfl | exact wF rfl (LeC.fl _) | exact wF rfl (LeC.refl _) | apply wV5 rfl | apply wCv rfl | apply wCv' rfl | apply wE rfl | apply wMs rfl rfl rfl rfl | refine wMs rfl rfl ?_ rfl ?_))) | (apply RetA.cellS rfl rfl rfl rfl rfl; (repeat' (first | exact rfl | exact wE rfl rfl | exact wNV rfl | exact wLV rfl | exact wMs rfl rfl rfl rfl rfl | exact wCv rfl rfl | exact wCv' rfl rfl | exact wNil rfl rfl | exact wF rfl (LeC.fl _) | exact wF rfl (LeC.refl _) | apply wV5 rfl | apply wCv rfl | apply wCv' rfl | apply wE rfl | apply wMs rfl rfl rfl rfl | refine wMs rfl rfl ?_ rfl ?_))) | (apply RetA.cellW rfl rfl rfl rfl rfl; (repeat' (first | exact rfl | exact wE rfl rfl | exact wNV rfl | exact wLV rfl | exact wMs rfl rfl rfl rfl rfl | exact wCv rfl rfl | exact wCv' rfl rfl | exact wNil rfl rfl | exact wF rfl (LeC.fl _) | exact wF rfl (LeC.refl _) | apply wV5 rfl | apply wCv rfl | apply wCv' rfl | apply wE rfl | apply wMs rfl rfl rfl rfl | refine wMs rfl rfl ?_ rfl ?_))))) | exact retN))
        all_goals (rw [hle]; rfl)
      have hb4 : (bad : Int).tmod 4 = ((bad % 4 : Nat) : Int) := by rw [Int.tmod_eq_emod_of_nonneg (by omega)]; rfl
      obtain ⟨b, hbb⟩ : ∃ b, b = bad % 4 := ⟨_, rfl⟩
      rw [← hbb] at hb4
      have hb1 : 1 ≤ b := by rw [hb4] at hbd; simp at hbd; omega
      have hb3 : b < 4 := by omega
      have hwu : IntKind.u8.wrap ((bad : Int).tmod 4 - 1) = ((b - 1 : Nat) : Int) := by
        rw [hb4]
        match b, hb1, hb3 with
        | 1, _, _ => rfl
        | 2, _, _ => rfl
        | 3, _, _ => rfl
      have hix0 : 0 ≤ IntKind.u8.wrap ((bad : Int).tmod 4 - 1) := by rw [hwu]; omega
      have hixy : [textV sG, V.mk 4 0 0 ⟨#[]⟩ [textV sG], V.mk 4 0 0 ⟨#[]⟩ [textV s0, textV sM]][(IntKind.u8.wrap ((bad : Int).tmod 4 - 1)).toNat]? = some (badX b) := by
        rw [hwu]
        match b, hb1, hb3 with
        | 1, _, _ => rfl
        | 2, _, _ => rfl
        | 3, _, _ => rfl
      have hwr := bad_wrong hb1 hb3
      generalize badX b = bx at hixy hwr
      have hKz : (((k + 1 : Nat) : Int) == 0) = false := by simp; omega
      have hqi : (IntKind.i64.wrap (bad : Int)).tmod ((k + 1 : Nat) : Int) = ((bad % (k + 1) : Nat) : Int) := by
        rw [wrap_id (by omega) (by omega)]; exact (Int.ofNat_tmod bad (k + 1)).symm
      have hqk : bad % (k + 1) < k + 1 := Nat.mod_lt _ (by omega)
      have hq0 : 0 ≤ (IntKind.i64.wrap (bad : Int)).tmod ((k + 1 : Nat) : Int) := by rw [hqi]; omega
      have hq1 : (IntKind.i64.wrap (bad : Int)).tmod ((k + 1 : Nat) : Int) < ((k + 1 : Nat) : Int) := by rw [hqi]; omega
      have hq2 : ((IntKind.i64.wrap (bad : Int)).tmod ((k + 1 : Nat) : Int)).toNat < k + 1 := by rw [hqi, Int.toNat_natCast]; exact hqk
      have hlt1 := list_c [textV sG]
      have hlt2 := list_c [textV s0, textV sM]
      have hts0 := text_c s0
      have hls : (((List.replicate (k + 1) st).set ((IntKind.i64.wrap (bad : Int)).tmod ((k + 1 : Nat) : Int)).toNat bx).map V.cv).length = k + 1 := by simp
      have hc := checkA_c sOrch sRun ((List.replicate (k + 1) st).set ((IntKind.i64.wrap (bad : Int)).tmod ((k + 1 : Nat) : Int)).toNat bx)
      have hck2 : ∀ x ∈ (List.replicate (k + 1) st).set ((IntKind.i64.wrap (bad : Int)).tmod ((k + 1 : Nat) : Int)).toNat bx, checkS x = 0 := fun x hx => by
        rcases List.mem_or_eq_of_mem_set hx with h | h
        · exact hck x h
        · rw [h]; exact hwr.1
      have hal2 : ((List.replicate (k + 1) st).set ((IntKind.i64.wrap (bad : Int)).tmod ((k + 1 : Nat) : Int)).toNat bx).all stepS = false := by
        rw [Bool.eq_false_iff]
        intro h
        have := List.all_eq_true.1 h bx (List.mem_set (by rw [hl0]; exact hq2) _)
        rw [hwr.2] at this; cases this
      rw [checkA_eq, run_check _ hck2, List.length_set, hl0, if_neg hn8, hal2, if_neg (by decide)] at hc
      (repeat' (first | refine CQ.seq ?_ | refine CQ.block ?_ | ((first | apply CQ.rT hU | apply CQ.rD hU); (· (repeat (first | exact RunL.nil | (apply RunL.op; (first | ((first | apply sv | (apply gv; (· rfl); (· rfl)) | (apply gvB; (· rfl); (· rfl); (· assumption))); (first | exact (.binR rfl rfl (by assumption)) | exact .callP rfl rfl ta (htg) | exact .callP rfl rfl ta (htm) | exact .callP rfl rfl ta (hts0) | exact .callP rfl rfl ta (hlt1) | exact .callP rfl rfl ta (hlt2) | exact (ixV (l := [textV sG, V.mk 4 0 0 ⟨#[]⟩ [textV sG], V.mk 4 0 0 ⟨#[]⟩ [textV s0, textV sM]]) (y := bx) rfl rfl hix0 hixy rfl rfl rfl rfl) | exact (ixMV rfl rfl (by assumption) rfl hq0 hq1 rfl rfl rfl rfl) | exact (cB rfl hc rfl (.c (tE rfl) (.c (tE rfl) (.ms rfl (by assumption) .nil)))) | exact vv)) | exact gn rfl rfl rfl | exact gnU rfl rfl | exact gnB rfl rfl (by assumption) rfl | exact so ((stEVA (u := bx) rfl rfl (by assumption) hq2 (.inl rfl) rfl rfl)) | exact gR rfl rfl ((stEVA (u := bx) rfl rfl (by assumption) hq2 (.inl rfl) rfl rfl)) | exact gRB rfl rfl (by assumption) ((stEVA (u := bx) rfl rfl (by assumption) hq2 (.inl rfl) rfl rfl)) | exact so oo | exact gR rfl rfl oo | exact so rr | exact gR rfl rfl rr | exact gRB rfl rfl (by assumption) oo | exact gRB rfl rfl (by assumption) rr))))); (· kernel_rfl); clear hU; intro hU) | refine CQ.condT rfl ?_ | refine CQ.condF rfl ?_ | refine CQ.condT (hbl ‹_›) ?_ | refine CQ.condF (hbl ‹_›) ?_ | refine CQ.ret ?_ | refine CQ.skip ?_ | refine CQ.exit ?_ | (apply CQ.cond rfl <;> intro hb)))
      (repeat' (first | (apply retC; (first | (apply RetA.tmp; (repeat' (first | exact rfl | exact wE rfl rfl | exact wNV rfl | exact wLV rfl | exact wMs rfl rfl rfl rfl rfl | exact wCv rfl rfl | exact wCv' rfl rfl | exact wNil rfl rfl | exact wF rfl (LeC.fl _) | exact wF rfl (LeC.refl _) | apply wV5 rfl | apply wCv rfl | apply wCv' rfl | apply wE rfl | apply wMs rfl rfl rfl rfl | refine wMs rfl rfl ?_ rfl ?_))) | (apply RetA.cellS rfl rfl rfl rfl rfl; (repeat' (first | exact rfl | exact wE rfl rfl | exact wNV rfl | exact wLV rfl | exact wMs rfl rfl rfl rfl rfl | exact wCv rfl rfl | exact wCv' rfl rfl | exact wNil rfl rfl | exact wF rfl (LeC.fl _) | exact wF rfl (LeC.refl _) | apply wV5 rfl | apply wCv rfl | apply wCv' rfl | apply wE rfl | apply wMs rfl rfl rfl rfl | refine wMs rfl rfl ?_ rfl ?_))) | (apply RetA.cellW rfl rfl rfl rfl rfl; (repeat' (first | exact rfl | exact wE rfl rfl | exact wNV rfl | exact wLV rfl | exact wMs rfl rfl rfl rfl rfl | exact wCv rfl rfl | exact wCv' rfl rfl | exact wNil rfl rfl | exact wF rfl (LeC.fl _) | exact wF rfl (LeC.refl _) | apply wV5 rfl | apply wCv rfl | apply wCv' rfl | apply wE rfl | apply wMs rfl rfl rfl rfl | refine wMs rfl rfl ?_ rfl ?_))))) | exact retN))
    · have hb' : k + 1 < K := by simp at hb; omega
      clear hb
      have hb : decide ((((k + 1 : Nat) : Int) : Int) < (K : Int)) = true := by simp; omega
      (repeat' (first | refine CQ.seq ?_ | refine CQ.block ?_ | ((first | apply CQ.rT hU | apply CQ.rD hU); (· (repeat (first | exact RunL.nil | (apply RunL.op; (first | ((first | apply sv | (apply gv; (· rfl); (· rfl)) | (apply gvB; (· rfl); (· rfl); (· assumption))); (first | exact vv)) | exact gn rfl rfl rfl | exact gnU rfl rfl | exact gnB rfl rfl (by assumption) rfl | exact so oo | exact gR rfl rfl oo | exact so rr | exact gR rfl rfl rr | exact gRB rfl rfl (by assumption) oo | exact gRB rfl rfl (by assumption) rr))))); (· kernel_rfl); clear hU; intro hU) | refine CQ.condT rfl ?_ | refine CQ.condF rfl ?_ | refine CQ.condT (hbl ‹_›) ?_ | refine CQ.condF (hbl ‹_›) ?_ | refine CQ.ret ?_ | refine CQ.skip ?_ | refine CQ.exit ?_ | (apply CQ.cond rfl <;> intro hb)))
      first | apply CQ.rT hU | apply CQ.rD hU
      · apply RunL.op
        · apply sv; exact .callP rfl rfl ta htg
        apply RunL.op
        · apply sv; exact .callP rfl rfl ta htm
        apply RunL.op
        · apply so; exact bsMV (vs := [textV sG, textV sM]) (.cons (tE rfl) (.cons (tE rfl) .nil)) rfl rfl rfl rfl rfl rfl rfl
        (repeat (first | exact RunL.nil | (apply RunL.op; (first | ((first | apply sv | (apply gv; (· rfl); (· rfl)) | (apply gvB; (· rfl); (· rfl); (· assumption))); (first | exact vv)) | exact gn rfl rfl rfl | exact gnU rfl rfl | exact gnB rfl rfl (by assumption) rfl | exact so ((coP1 rfl hlo rfl tas)) | exact gR rfl rfl ((coP1 rfl hlo rfl tas)) | exact gRB rfl rfl (by assumption) ((coP1 rfl hlo rfl tas)) | exact so oo | exact gR rfl rfl oo | exact so rr | exact gR rfl rfl rr | exact gRB rfl rfl (by assumption) oo | exact gRB rfl rfl (by assumption) rr))))
      · kernel_rfl
      clear hU; intro hU
      (repeat' (first | refine CQ.seq ?_ | refine CQ.block ?_ | ((first | apply CQ.rT hU | apply CQ.rD hU); (· (repeat (first | exact RunL.nil | (apply RunL.op; (first | ((first | apply sv | (apply gv; (· rfl); (· rfl)) | (apply gvB; (· rfl); (· rfl); (· assumption))); (first | exact vv)) | exact gn rfl rfl rfl | exact gnU rfl rfl | exact gnB rfl rfl (by assumption) rfl | exact so oo | exact gR rfl rfl oo | exact so rr | exact gR rfl rfl rr | exact gRB rfl rfl (by assumption) oo | exact gRB rfl rfl (by assumption) rr))))); (· kernel_rfl); clear hU; intro hU) | refine CQ.condT rfl ?_ | refine CQ.condF rfl ?_ | refine CQ.condT (hbl ‹_›) ?_ | refine CQ.condF (hbl ‹_›) ?_ | refine CQ.ret ?_ | refine CQ.skip ?_ | refine CQ.exit ?_ | (apply CQ.cond rfl <;> intro hb)))
      refine CQ.loop hT (fun j : Nat => match j with | 0 => ⟨mkT [(1, .c (.v (.int .u8 bad))), (2, .c (.v (.int .u8 extra))), (7, .c (.v (.int .i64 K))), (8, .ms 45 (k + 1)), (9, .c (.v (.int .i64 ((k + 1 : Nat) : Int)))), (10, .loc 10 0), (11, .c (.v (.int .i64 0)))], mkM [(45, .arr 5 34 ((List.replicate (k + 1) (V.mk 4 0 0 ⟨#[]⟩ (rowX X))).map V.cv)), (26, .arr 5 34 ((rowX 0).map V.cv)), (10, .box (outB (.ms 26 2)))]⟩ | j + 1 => ⟨mkT [(1, .c (.v (.int .u8 bad))), (2, .c (.v (.int .u8 extra))), (7, .c (.v (.int .i64 K))), (8, .ms 45 (k + 1)), (9, .c (.v (.int .i64 ((k + 1 : Nat) : Int)))), (10, .loc 10 0), (11, .c (.v (.int .i64 ((j + 1 : Nat) : Int))))], mkM [(45, .arr 5 34 ((List.replicate (k + 1) (V.mk 4 0 0 ⟨#[]⟩ (rowX X))).map V.cv)), (40, .arr 5 34 ((rowX (j + 1)).map V.cv)), (10, .box (outB (.ms 40 (2 + (j + 1)))))]⟩) (fun j => j ≤ X) (fun j => X - j) 0 (Nat.zero_le _) ?_ ?_
      · (refine wkS ?_ ?_; (all_goals (repeat' (first | exact wkB | refine wkP ?_ ?_ | exact wkMB | refine wkMP rfl ?_ ?_ | exact wkOr rfl | exact wkB0 | refine wkBx ?_ ?_ | refine wkOa ?_ | exact wr rfl | exact wE rfl rfl | exact wNV rfl | exact wLV rfl | exact wMs rfl rfl rfl rfl rfl | exact wCv rfl rfl | exact wCv' rfl rfl | exact wNil rfl rfl | exact wF rfl (LeC.fl _) | apply wV5 rfl | apply wCv rfl | apply wCv' rfl | apply wE rfl | apply wMs rfl rfl rfl rfl | refine wMs rfl rfl ?_ rfl ?_))))
      clear hU
      rintro (_ | j) hj
      · have hU : Fresh [45, 26, 10] ⟨mkT [(1, .c (.v (.int .u8 bad))), (2, .c (.v (.int .u8 extra))), (7, .c (.v (.int .i64 K))), (8, .ms 45 (k + 1)), (9, .c (.v (.int .i64 ((k + 1 : Nat) : Int)))), (10, .loc 10 0), (11, .c (.v (.int .i64 0)))], mkM [(45, .arr 5 34 ((List.replicate (k + 1) (V.mk 4 0 0 ⟨#[]⟩ (rowX X))).map V.cv)), (26, .arr 5 34 ((rowX 0).map V.cv)), (10, .box (outB (.ms 26 2)))]⟩ := by exact fr
        have hrl : (rowX 0).length = 2 := rfl
        cases hb2 : decide ((0 : Int) < IntKind.i64.wrap ((extra : Int).tmod 5))
        · obtain rfl : X = 0 := by rw [hXw] at hb2; simp at hb2; omega
          clear hU
          refine CQ.weak (s' := ⟨mkT [(1, .c (.v (.int .u8 bad))), (2, .c (.v (.int .u8 extra))), (7, .c (.v (.int .i64 K))), (8, .ms 45 (k + 1)), (9, .c (.v (.int .i64 ((k + 1 : Nat) : Int)))), (10, .loc 10 0), (11, .c (.v (.int .i64 0)))], mkM [(45, .arr 5 34 ((List.replicate (k + 1) (V.mk 4 0 0 ⟨#[]⟩ (rowX 0))).map V.cv)), (10, .box (outB (.c (.sl 5 ((rowX 0).map V.cv)))))]⟩) ?_ hT ?_
          · (refine wkS ?_ ?_; (all_goals (repeat' (first | exact wkB | refine wkP ?_ ?_ | exact wkMB | refine wkMP rfl ?_ ?_ | exact wkOr rfl | exact wkB0 | refine wkBx ?_ ?_ | refine wkOa ?_ | exact wr rfl | exact wE rfl rfl | exact wNV rfl | exact wLV rfl | exact wMs rfl rfl rfl rfl rfl | exact wCv rfl rfl | exact wCv' rfl rfl | exact wNil rfl rfl | exact wF rfl (LeC.fl _) | apply wV5 rfl | apply wCv rfl | apply wCv' rfl | apply wE rfl | apply wMs rfl rfl rfl rfl | refine wMs rfl rfl ?_ rfl ?_))))
            all_goals first | rfl | (simp [rowX]; done) | (simp [rowX]; omega)
          have hU : Fresh [45, 10] ⟨mkT [(1, .c (.v (.int .u8 bad))), (2, .c (.v (.int .u8 extra))), (7, .c (.v (.int .i64 K))), (8, .ms 45 (k + 1)), (9, .c (.v (.int .i64 ((k + 1 : Nat) : Int)))), (10, .loc 10 0), (11, .c (.v (.int .i64 0)))], mkM [(45, .arr 5 34 ((List.replicate (k + 1) (V.mk 4 0 0 ⟨#[]⟩ (rowX 0))).map V.cv)), (10, .box (outB (.c (.sl 5 ((rowX 0).map V.cv)))))]⟩ := by exact fr
          have hrp : (List.replicate (k + 1) (V.mk 4 0 0 ⟨#[]⟩ (rowX 0))).length = k + 1 := List.length_replicate ..
          (repeat' (first | refine CQ.seq ?_ | refine CQ.block ?_ | ((first | apply CQ.rT hU | apply CQ.rD hU); (· (repeat (first | exact RunL.nil | (apply RunL.op; (first | ((first | apply sv | (apply gv; (· rfl); (· rfl)) | (apply gvB; (· rfl); (· rfl); (· assumption))); (first | exact vv)) | exact gn rfl rfl rfl | exact gnU rfl rfl | exact gnB rfl rfl (by assumption) rfl | exact so oo | exact gR rfl rfl oo | exact so rr | exact gR rfl rfl rr | exact gRB rfl rfl (by assumption) oo | exact gRB rfl rfl (by assumption) rr))))); (· kernel_rfl); clear hU; intro hU) | refine CQ.condT rfl ?_ | refine CQ.condF rfl ?_ | refine CQ.condT (hbl ‹_›) ?_ | refine CQ.condF (hbl ‹_›) ?_ | refine CQ.ret ?_ | refine CQ.skip ?_ | refine CQ.exit ?_ | (apply CQ.cond rfl <;> intro hb)))
          refine ⟨k + 2, by omega, by omega, ?_⟩
          (refine wkS ?_ ?_; (all_goals (repeat' (first | exact wkB | refine wkP ?_ ?_ | exact wkMB | refine wkMP rfl ?_ ?_ | exact wkOr rfl | exact wkB0 | refine wkBx ?_ ?_ | refine wkOa ?_ | exact wr rfl | exact wE rfl rfl | exact wNV rfl | exact wLV rfl | exact wMs rfl rfl rfl rfl rfl | exact wCv rfl rfl | exact wCv' rfl rfl | exact wNil rfl rfl | exact wF rfl (LeC.fl _) | apply wV5 rfl | apply wCv rfl | apply wCv' rfl | apply wE rfl | apply wMs rfl rfl rfl rfl | refine wMs rfl rfl ?_ rfl ?_))))
          all_goals first | rfl | (rw [wrap_id (by omega) (by omega)]; rfl) | (rw [← List.replicate_succ']; done) | (rw [List.replicate_succ' (n := k + 1)]; rfl)
        · have hjX : 0 < X := by rw [hXw] at hb2; simp at hb2; omega
          have hin := int_c (0)
          have hl3 : ((rowX 0 ++ [intV' (0)]).map V.cv).length = 2 + [intV' (0)].length := by simp [hrl]
          have hbb : 2 + [intV' (0)].length ≤ 1000000 := by simp <;> omega
          (repeat' (first | refine CQ.seq ?_ | refine CQ.block ?_ | ((first | apply CQ.rT hU | apply CQ.rD hU); (· (repeat (first | exact RunL.nil | (apply RunL.op; (first | ((first | apply sv | (apply gv; (· rfl); (· rfl)) | (apply gvB; (· rfl); (· rfl); (· assumption))); (first | exact .callP rfl rfl ta (hin) | exact vv)) | exact gn rfl rfl rfl | exact gnU rfl rfl | exact gnB rfl rfl (by assumption) rfl | exact so ((apM (xs := rowX 0) (ys := [intV' (0)]) rfl rfl hrl rfl rfl rfl rfl rfl rfl hbb (Nat.le_of_ble_eq_true rfl))) | exact gR rfl rfl ((apM (xs := rowX 0) (ys := [intV' (0)]) rfl rfl hrl rfl rfl rfl rfl rfl rfl hbb (Nat.le_of_ble_eq_true rfl))) | exact gRB rfl rfl (by assumption) ((apM (xs := rowX 0) (ys := [intV' (0)]) rfl rfl hrl rfl rfl rfl rfl rfl rfl hbb (Nat.le_of_ble_eq_true rfl))) | exact so oo | exact gR rfl rfl oo | exact so rr | exact gR rfl rfl rr | exact gRB rfl rfl (by assumption) oo | exact gRB rfl rfl (by assumption) rr))))); (· kernel_rfl); clear hU; intro hU) | refine CQ.condT rfl ?_ | refine CQ.condF rfl ?_ | refine CQ.condT (hbl ‹_›) ?_ | refine CQ.condF (hbl ‹_›) ?_ | refine CQ.ret ?_ | refine CQ.skip ?_ | refine CQ.exit ?_ | (apply CQ.cond rfl <;> intro hb)))
          refine ⟨1, by omega, by omega, ?_⟩
          (refine wkS ?_ ?_; (all_goals (repeat' (first | exact wkB | refine wkP ?_ ?_ | exact wkMB | refine wkMP rfl ?_ ?_ | exact wkOr rfl | exact wkB0 | refine wkBx ?_ ?_ | refine wkOa ?_ | exact wr rfl | exact wE rfl rfl | exact wNV rfl | exact wLV rfl | exact wMs rfl rfl rfl rfl rfl | exact wCv rfl rfl | exact wCv' rfl rfl | exact wNil rfl rfl | exact wF rfl (LeC.fl _) | apply wV5 rfl | apply wCv rfl | apply wCv' rfl | apply wE rfl | apply wMs rfl rfl rfl rfl | refine wMs rfl rfl ?_ rfl ?_))))
          all_goals first | rfl | (rw [wrap_id (by omega) (by omega)]; rfl) | exact congrArg (List.map V.cv) (rowX_succ (j + 1))
      · have hU : Fresh [45, 40, 10] ⟨mkT [(1, .c (.v (.int .u8 bad))), (2, .c (.v (.int .u8 extra))), (7, .c (.v (.int .i64 K))), (8, .ms 45 (k + 1)), (9, .c (.v (.int .i64 ((k + 1 : Nat) : Int)))), (10, .loc 10 0), (11, .c (.v (.int .i64 ((j + 1 : Nat) : Int))))], mkM [(45, .arr 5 34 ((List.replicate (k + 1) (V.mk 4 0 0 ⟨#[]⟩ (rowX X))).map V.cv)), (40, .arr 5 34 ((rowX (j + 1)).map V.cv)), (10, .box (outB (.ms 40 (2 + (j + 1)))))]⟩ := by exact fr
        have hrl : (rowX (j + 1)).length = 2 + (j + 1) := rowX_len _
        cases hb2 : decide ((((j + 1 : Nat) : Int) : Int) < IntKind.i64.wrap ((extra : Int).tmod 5))
        · obtain rfl : X = (j + 1) := by rw [hXw] at hb2; simp at hb2; omega
          clear hU
          refine CQ.weak (s' := ⟨mkT [(1, .c (.v (.int .u8 bad))), (2, .c (.v (.int .u8 extra))), (7, .c (.v (.int .i64 K))), (8, .ms 45 (k + 1)), (9, .c (.v (.int .i64 ((k + 1 : Nat) : Int)))), (10, .loc 10 0), (11, .c (.v (.int .i64 ((j + 1 : Nat) : Int))))], mkM [(45, .arr 5 34 ((List.replicate (k + 1) (V.mk 4 0 0 ⟨#[]⟩ (rowX (j + 1)))).map V.cv)), (10, .box (outB (.c (.sl 5 ((rowX (j + 1)).map V.cv)))))]⟩) ?_ hT ?_
          · (refine wkS ?_ ?_; (all_goals (repeat' (first | exact wkB | refine wkP ?_ ?_ | exact wkMB | refine wkMP rfl ?_ ?_ | exact wkOr rfl | exact wkB0 | refine wkBx ?_ ?_ | refine wkOa ?_ | exact wr rfl | exact wE rfl rfl | exact wNV rfl | exact wLV rfl | exact wMs rfl rfl rfl rfl rfl | exact wCv rfl rfl | exact wCv' rfl rfl | exact wNil rfl rfl | exact wF rfl (LeC.fl _) | apply wV5 rfl | apply wCv rfl | apply wCv' rfl | apply wE rfl | apply wMs rfl rfl rfl rfl | refine wMs rfl rfl ?_ rfl ?_))))
            all_goals first | rfl | (simp [rowX]; done) | (simp [rowX]; omega)
          have hU : Fresh [45, 10] ⟨mkT [(1, .c (.v (.int .u8 bad))), (2, .c (.v (.int .u8 extra))), (7, .c (.v (.int .i64 K))), (8, .ms 45 (k + 1)), (9, .c (.v (.int .i64 ((k + 1 : Nat) : Int)))), (10, .loc 10 0), (11, .c (.v (.int .i64 ((j + 1 : Nat) : Int))))], mkM [(45, .arr 5 34 ((List.replicate (k + 1) (V.mk 4 0 0 ⟨#[]⟩ (rowX (j + 1)))).map V.cv)), (10, .box (outB (.c (.sl 5 ((rowX (j + 1)).map V.cv)))))]⟩ := by exact fr
          have hrp : (List.replicate (k + 1) (V.mk 4 0 0 ⟨#[]⟩ (rowX (j + 1)))).length = k + 1 := List.length_replicate ..
          (repeat' (first | refine CQ.seq ?_ | refine CQ.block ?_ | ((first | apply CQ.rT hU | apply CQ.rD hU); (· (repeat (first | exact RunL.nil | (apply RunL.op; (first | ((first | apply sv | (apply gv; (· rfl); (· rfl)) | (apply gvB; (· rfl); (· rfl); (· assumption))); (first | exact vv)) | exact gn rfl rfl rfl | exact gnU rfl rfl | exact gnB rfl rfl (by assumption) rfl | exact so oo | exact gR rfl rfl oo | exact so rr | exact gR rfl rfl rr | exact gRB rfl rfl (by assumption) oo | exact gRB rfl rfl (by assumption) rr))))); (· kernel_rfl); clear hU; intro hU) | refine CQ.condT rfl ?_ | refine CQ.condF rfl ?_ | refine CQ.condT (hbl ‹_›) ?_ | refine CQ.condF (hbl ‹_›) ?_ | refine CQ.ret ?_ | refine CQ.skip ?_ | refine CQ.exit ?_ | (apply CQ.cond rfl <;> intro hb)))
          refine ⟨k + 2, by omega, by omega, ?_⟩
          (refine wkS ?_ ?_; (all_goals (repeat' (first | exact wkB | refine wkP ?_ ?_ | exact wkMB | refine wkMP rfl ?_ ?_ | exact wkOr rfl | exact wkB0 | refine wkBx ?_ ?_ | refine wkOa ?_ | exact wr rfl | exact wE rfl rfl | exact wNV rfl | exact wLV rfl | exact wMs rfl rfl rfl rfl rfl | exact wCv rfl rfl | exact wCv' rfl rfl | exact wNil rfl rfl | exact wF rfl (LeC.fl _) | apply wV5 rfl | apply wCv rfl | apply wCv' rfl | apply wE rfl | apply wMs rfl rfl rfl rfl | refine wMs rfl rfl ?_ rfl ?_))))
          all_goals first | rfl | (rw [wrap_id (by omega) (by omega)]; rfl) | (rw [← List.replicate_succ']; done) | (rw [List.replicate_succ' (n := k + 1)]; rfl)
        · have hjX : (j + 1) < X := by rw [hXw] at hb2; simp at hb2; omega
          have hin := int_c (((j + 1 : Nat) : Int))
          have hl3 : ((rowX (j + 1) ++ [intV' (((j + 1 : Nat) : Int))]).map V.cv).length = 2 + (j + 1) + [intV' (((j + 1 : Nat) : Int))].length := by simp [hrl]
          have hbb : 2 + (j + 1) + [intV' (((j + 1 : Nat) : Int))].length ≤ 1000000 := by simp <;> omega
          (repeat' (first | refine CQ.seq ?_ | refine CQ.block ?_ | ((first | apply CQ.rT hU | apply CQ.rD hU); (· (repeat (first | exact RunL.nil | (apply RunL.op; (first | ((first | apply sv | (apply gv; (· rfl); (· rfl)) | (apply gvB; (· rfl); (· rfl); (· assumption))); (first | exact .callP rfl rfl ta (hin) | exact vv)) | exact gn rfl rfl rfl | exact gnU rfl rfl | exact gnB rfl rfl (by assumption) rfl | exact so ((apM (xs := rowX (j + 1)) (ys := [intV' (((j + 1 : Nat) : Int))]) rfl rfl hrl rfl rfl rfl rfl rfl rfl hbb (Nat.le_of_ble_eq_true rfl))) | exact gR rfl rfl ((apM (xs := rowX (j + 1)) (ys := [intV' (((j + 1 : Nat) : Int))]) rfl rfl hrl rfl rfl rfl rfl rfl rfl hbb (Nat.le_of_ble_eq_true rfl))) | exact gRB rfl rfl (by assumption) ((apM (xs := rowX (j + 1)) (ys := [intV' (((j + 1 : Nat) : Int))]) rfl rfl hrl rfl rfl rfl rfl rfl rfl hbb (Nat.le_of_ble_eq_true rfl))) | exact so oo | exact gR rfl rfl oo | exact so rr | exact gR rfl rfl rr | exact gRB rfl rfl (by assumption) oo | exact gRB rfl rfl (by assumption) rr))))); (· kernel_rfl); clear hU; intro hU) | refine CQ.condT rfl ?_ | refine CQ.condF rfl ?_ | refine CQ.condT (hbl ‹_›) ?_ | refine CQ.condF (hbl ‹_›) ?_ | refine CQ.ret ?_ | refine CQ.skip ?_ | refine CQ.exit ?_ | (apply CQ.cond rfl <;> intro hb)))
          refine ⟨j + 2, by omega, by omega, ?_⟩
          (refine wkS ?_ ?_; (all_goals (repeat' (first | exact wkB | refine wkP ?_ ?_ | exact wkMB | refine wkMP rfl ?_ ?_ | exact wkOr rfl | exact wkB0 | refine wkBx ?_ ?_ | refine wkOa ?_ | exact wr rfl | exact wE rfl rfl | exact wNV rfl | exact wLV rfl | exact wMs rfl rfl rfl rfl rfl | exact wCv rfl rfl | exact wCv' rfl rfl | exact wNil rfl rfl | exact wF rfl (LeC.fl _) | apply wV5 rfl | apply wCv rfl | apply wCv' rfl | apply wE rfl | apply wMs rfl rfl rfl rfl | refine wMs rfl rfl ?_ rfl ?_))))
          all_goals first | rfl | (rw [wrap_id (by omega) (by omega)]; rfl) | exact congrArg (List.map V.cv) (rowX_succ (j + 1))
end Go.Proofs.Ytbjcckjhfjhicaa
