/- Walks: the order of a queue. -/
import Derived.Test.YtbjcckjhfjhicaaG12
import Derived.Test.YtbjcckjhfjhicaaS7
import Derived.Test.YtbjcckjhfjhicaaO
namespace Go.Proofs.Ytbjcckjhfjhicaa
open Go Go.AM
set_option linter.unusedVariables false
set_option maxHeartbeats 4000000
set_option maxRecDepth 100000
set_option linter.unusedSimpArgs false

/-! a queue of whole numbers -/
def intsV (w : List Int) : V := listV (w.map intV')
theorem clean_int (n : Int) : cleanS (intV' n) = intV' n := by show cleanS (V.mk 1 n 0 ⟨#[]⟩ []) = _; rw [cleanS_eq]; rfl
theorem size_int (n : Int) : sizeS (intV' n) = 9 := by show sizeS (V.mk 1 n 0 ⟨#[]⟩ []) = _; rw [sizeS_eq]; rfl
theorem check_int (n : Int) : checkS (intV' n) = 0 := by
  unfold checkS
  rw [show kindsS (intV' n) = true by show kindsS (V.mk 1 n 0 ⟨#[]⟩ []) = _; rw [kindsS_eq]; rfl, show greatS (intV' n) 8 = false by show greatS (V.mk 1 n 0 ⟨#[]⟩ []) _ = _; rw [greatS_eq]; rfl, size_int]
  rfl
theorem great_ints {w : List Int} (h : w.length ≤ 64) : greatS (intsV w) 8 = false := by
  rw [greatS_eq]
  show (decide (((w.map intV').length : Int) > 64) || decide ((8 : Int) < 1) || greatsS (w.map intV') 7) = false
  have : greatsS (w.map intV') 7 = false := by
    rw [greatsS_eq]
    refine List.any_eq_false.2 fun x hx => ?_
    obtain ⟨n, _, rfl⟩ := List.mem_map.1 hx
    rw [show greatS (intV' n) 7 = false by show greatS (V.mk 1 n 0 ⟨#[]⟩ []) _ = _; rw [greatS_eq]; rfl]; decide
  rw [this, List.length_map, decide_eq_false (by omega)]; rfl
theorem sum_ints (w : List Int) : sumS (w.map intV') = 9 * w.length := by
  induction w with
  | nil => rfl
  | cons n w ih =>
    have : sumS ((n :: w).map intV') = sizeS (intV' n) + sumS (w.map intV') := by simp [sumS]
    rw [this, ih, size_int]; simp; omega
theorem kinds_ints (w : List Int) : kindsS (intsV w) = true := by
  rw [kindsS_eq]
  show kindssS (w.map intV') = true
  rw [kindssS_eq]
  refine List.all_eq_true.2 fun x hx => ?_
  obtain ⟨n, _, rfl⟩ := List.mem_map.1 hx
  show kindsS (V.mk 1 n 0 ⟨#[]⟩ []) = _
  rw [kindsS_eq]; rfl
theorem qOk_ints {w : List Int} (h : w.length ≤ 64) : qOk (intsV w) = decide (w.length ≤ 32) := by
  have hs := (sizes_list (great_ints h)).1
  rw [sum_ints] at hs
  have hs : sizeS (intsV w) = 2 + 9 * w.length := hs
  show (((4 : Int) == 4) && (decide ((((w.map intV').length : Nat) : Int) ≤ 32) && checkS (intsV w) == 0)) = _
  unfold checkS
  rw [kinds_ints, great_ints h, hs, List.length_map]
  by_cases h1 : w.length ≤ 32
  · simp [h1]; omega
  · simp [h1]; omega
theorem clean_ints (w : List Int) : (intsV w).l.map cleanS = w.map intV' := by
  show (w.map intV').map cleanS = _
  rw [List.map_map]
  exact List.map_congr_left fun n _ => clean_int n
theorem q_of1 {w : List Int} (h : w.length ≤ 32) {m : ByteArray} {l : List V} (hc : checkR sQueue m l = 0) : qS (intsV w) m l = q1S (w.map intV') m l := by
  unfold qS
  rw [qOk_ints (by omega), hc, decide_eq_true h, clean_ints]
  rfl
theorem q_pushI {w : List Int} (h : w.length ≤ 32) (x : Int) : qS (intsV w) sPush [intV' x] = if decide ((w.length : Int) ≥ 32) then (nilV, nilV, 33) else (intsV (w ++ [x]), intV' ((w.length + 1 : Nat) : Int), 0) := by
  rw [q_of1 h (check_push (check_int x))]
  unfold q1S
  rw [if_pos (by simp only [ByteArray.toList_eq]; rfl)]
  show pushS (w.map intV') (cleanS (intV' x)) = _
  unfold pushS
  rw [clean_int, show w.map intV' ++ [intV' x] = (w ++ [x]).map intV' by simp]
  show (if qOk (intsV (w ++ [x])) = true then _ else _) = _
  rw [qOk_ints (by simp; omega)]
  by_cases h1 : w.length < 32
  · rw [if_pos (by simp; omega), if_neg (by simp; omega)]
    simp only [List.length_map, List.length_append, List.length_cons, List.length_nil]; rfl
  · rw [if_neg (by simp; omega), if_pos (by simp; omega)]
theorem check_pop : checkR sQueue sPop [] = 0 := by
  have hf : findS (methR sQueue) sPop = some (sPop, ⟨#[]⟩, true) := by
    unfold findS
    rw [methR_q]
    simp only [ByteArray.toList_eq]
    rfl
  unfold checkR
  rw [hf]
  have h1 : ((⟨#[]⟩ : ByteArray).toList == sS.toList) = false := by simp only [ByteArray.toList_eq]; rfl
  simp only [Option.isSome_some, if_true, Option.getD_some, h1, Bool.false_eq_true, if_false]
  rfl
theorem check_nth (x : Int) : checkR sQueue sNth [intV' x] = 0 := by
  have hf : findS (methR sQueue) sNth = some (sNth, ⟨#[105]⟩, false) := by
    unfold findS
    rw [methR_q]
    simp only [ByteArray.toList_eq]
    rfl
  unfold checkR
  rw [hf]
  have h1 : ((⟨#[105]⟩ : ByteArray).toList == sS.toList) = false := by simp only [ByteArray.toList_eq]; rfl
  simp only [Option.isSome_some, if_true, Option.getD_some, h1, Bool.false_eq_true, if_false]
  have h2 : (((⟨#[105]⟩ : ByteArray).size : Int) != (([intV' x].length : Nat) : Int)) = false := rfl
  rw [h2]
  simp only [Bool.false_eq_true, if_false]
  unfold tailS
  have h3 : firstErr [intV' x] = 0 := by
    unfold firstErr
    simp [List.find?, check_int]
  rw [h3]; rfl
theorem q_pop0 : qS (intsV []) sPop [] = (intsV [], nilV, 0) := by
  rw [q_of1 (by decide) check_pop]
  unfold q1S
  rw [if_neg (by simp only [ByteArray.toList_eq]; decide), if_neg (by simp only [ByteArray.toList_eq]; decide), if_neg (by simp only [ByteArray.toList_eq]; decide)]
  rfl
theorem q_pop1 {y : Int} {w : List Int} (h : (y :: w).length ≤ 32) : qS (intsV (y :: w)) sPop [] = (intsV w, intV' y, 0) := by
  rw [q_of1 h check_pop]
  unfold q1S
  rw [if_neg (by simp only [ByteArray.toList_eq]; decide), if_neg (by simp only [ByteArray.toList_eq]; decide), if_neg (by simp only [ByteArray.toList_eq]; decide), if_neg (by simp; omega), if_pos (by simp only [ByteArray.toList_eq]; decide)]
  rfl
theorem q_nthI {w : List Int} (h : w.length ≤ 32) (x : Int) : qS (intsV w) sNth [intV' x] = if decide (x < 0) || decide (x ≥ (w.length : Int)) then (nilV, nilV, 34) else (intsV w, (w.map intV').getD x.toNat nilV, 0) := by
  rw [q_of1 h (check_nth x)]
  unfold q1S
  rw [if_neg (by simp only [ByteArray.toList_eq]; decide), if_neg (by simp only [ByteArray.toList_eq]; decide), if_pos (by simp only [ByteArray.toList_eq]; decide)]
  rw [List.length_map]; rfl
theorem queueOrder_c (l : List (IntR .i16)) : Pure env.P 7 [.sl 1 (l.map (GR .i16).g)] [.v (.bool true)] := by
  refine Pure.go (E := env) Try.func7 rfl rfl rfl (Nat.le_of_ble_eq_true rfl) (Nat.le_of_ble_eq_true rfl) ?_; rintro ⟨w0, T0, L0, n, r0, hn0, hT0⟩ hn hT hU; obtain rfl : n = _ := hn
  have hkn := knownQ_c
  cases h80 : decide ((l.length : Int) > 80)
  rotate_left
  · (repeat' (first | refine CQ.seq ?_ | refine CQ.block ?_ | ((first | apply CQ.rT hU | apply CQ.rD hU); (· (repeat (first | exact RunL.nil | (apply RunL.op; (first | ((first | apply sv | (apply gv; (· rfl); (· rfl)) | (apply gvB; (· rfl); (· rfl); (· assumption))); (first | exact .callP rfl rfl ta (hkn) | exact (lnG (G := GR .i16) rfl rfl rfl) | exact vv)) | exact gn rfl rfl rfl | exact gnU rfl rfl | exact gnB rfl rfl (by assumption) rfl | exact so oo | exact gR rfl rfl oo | exact so rr | exact gR rfl rfl rr | exact gRB rfl rfl (by assumption) oo | exact gRB rfl rfl (by assumption) rr))))); (· kernel_rfl); clear hU; intro hU) | refine CQ.condT rfl ?_ | refine CQ.condF rfl ?_ | refine CQ.condT (hbl ‹_›) ?_ | refine CQ.condF (hbl ‹_›) ?_ | refine CQ.ret ?_ | refine CQ.skip ?_ | refine CQ.exit ?_ | (apply CQ.cond rfl <;> intro hb)))
    (repeat' (first | (apply retC; (first | (apply RetA.tmp; (repeat' (first | exact rfl | exact wE rfl rfl | exact wNV rfl | exact wLV rfl | exact wMs rfl rfl rfl rfl rfl | exact wCv rfl rfl | exact wCv' rfl rfl | exact wNil rfl rfl | exact wF rfl (LeC.fl _) | exact wF rfl (LeC.refl _) | apply wV5 rfl | apply wCv rfl | apply wCv' rfl | apply wE rfl | apply wMs rfl rfl rfl rfl | refine wMs rfl rfl ?_ rfl ?_))) | (apply RetA.cellS rfl rfl rfl rfl rfl; (repeat' (first | exact rfl | exact wE rfl rfl | exact wNV rfl | exact wLV rfl | exact wMs rfl rfl rfl rfl rfl | exact wCv rfl rfl | exact wCv' rfl rfl | exact wNil rfl rfl | exact wF rfl (LeC.fl _) | exact wF rfl (LeC.refl _) | apply wV5 rfl | apply wCv rfl | apply wCv' rfl | apply wE rfl | apply wMs rfl rfl rfl rfl | refine wMs rfl rfl ?_ rfl ?_))) | (apply RetA.cellW rfl rfl rfl rfl rfl; (repeat' (first | exact rfl | exact wE rfl rfl | exact wNV rfl | exact wLV rfl | exact wMs rfl rfl rfl rfl rfl | exact wCv rfl rfl | exact wCv' rfl rfl | exact wNil rfl rfl | exact wF rfl (LeC.fl _) | exact wF rfl (LeC.refl _) | apply wV5 rfl | apply wCv rfl | apply wCv' rfl | apply wE rfl | apply wMs rfl rfl rfl rfl | refine wMs rfl rfl ?_ rfl ?_))))) | exact retN))
  have hl80 : l.length ≤ 80 := by simp at h80; omega
  have hl0 := list_c []
  (repeat' (first | refine CQ.seq ?_ | refine CQ.block ?_ | ((first | apply CQ.rT hU | apply CQ.rD hU); (· (repeat (first | exact RunL.nil | (apply RunL.op; (first | ((first | apply sv | (apply gv; (· rfl); (· rfl)) | (apply gvB; (· rfl); (· rfl); (· assumption))); (first | exact .callP rfl rfl ta (hkn) | exact (lnG (G := GR .i16) rfl rfl rfl) | exact .callP rfl rfl ta (hl0) | exact vv)) | exact gn rfl rfl rfl | exact gnU rfl rfl | exact gnB rfl rfl (by assumption) rfl | exact so oo | exact gR rfl rfl oo | exact so rr | exact gR rfl rfl rr | exact gRB rfl rfl (by assumption) oo | exact gRB rfl rfl (by assumption) rr))))); (· kernel_rfl); clear hU; intro hU) | refine CQ.condT rfl ?_ | refine CQ.condF rfl ?_ | refine CQ.condT (hbl ‹_›) ?_ | refine CQ.condF (hbl ‹_›) ?_ | refine CQ.ret ?_ | refine CQ.skip ?_ | refine CQ.exit ?_ | (apply CQ.cond rfl <;> intro hb)))
  refine CQ.adopt 64 1 2 [3] [(0, .c (.sl 1 (l.map (GR .i16).g))), (3, .loc 3 0), (4, .c (.v (.slice none 0 0))), (5, .c (.v (.int .i64 0)))] [(0, .c (.sl 1 (l.map (GR .i16).g))), (3, .loc 3 0), (4, .ms 64 0), (5, .c (.v (.int .i64 0)))] [(3, .box (intsV []).ca)] [(3, .box (intsV []).ca)] hT (by (refine wkS ?_ ?_; (all_goals (repeat' (first | exact wkB | refine wkP ?_ ?_ | exact wkMB | refine wkMP rfl ?_ ?_ | exact wkOr rfl | exact wkB0 | refine wkBx ?_ ?_ | refine wkOa ?_ | exact wr rfl | exact wE rfl rfl | exact wNV rfl | exact wLV rfl | exact wMs rfl rfl rfl rfl rfl | exact wCv rfl rfl | exact wCv' rfl rfl | exact wNil rfl rfl | exact wF rfl (LeC.fl _) | apply wV5 rfl | apply wCv rfl | apply wCv' rfl | apply wE rfl | apply wMs rfl rfl rfl rfl | refine wMs rfl rfl ?_ rfl ?_))))) fr rfl rfl rfl (by repeat (first | exact AdT.nil | exact AdT.cons (.refl _) (by assumption) | refine AdT.cons .nil ?_ | refine AdT.cons (.refl _) ?_)) (by repeat' (first | exact AdM.nil | refine AdM.cons (.refl _) rfl ?_ | refine AdM.cons (.box ?_) rfl ?_ | exact AdC.nil | refine AdC.cons .nil ?_ | refine AdC.cons (.refl _) ?_)) ?_
  refine CQ.loopS (fun x : Nat × List Int × Nat => ⟨mkT [(0, .c (.sl 1 (l.map (GR .i16).g))), (3, .loc 3 0), (4, .ms 64 x.2.2), (5, .c (.v (.int .i64 x.1)))], mkM [(64, .arr 1 2 (x.2.1.map (GI .i64).g)), (3, .box (intsV x.2.1).ca)]⟩) (fun x => x.1 ≤ l.length ∧ x.2.1.length = x.2.2 ∧ x.2.2 ≤ 32) (fun x => l.length - x.1) (0, [], 0) ⟨Nat.zero_le _, rfl, by simp⟩ ?_ ?_
  · refine Sim.wk ?_ hT
    (refine wkS ?_ ?_; (all_goals (repeat' (first | exact wkB | refine wkP ?_ ?_ | exact wkMB | refine wkMP rfl ?_ ?_ | exact wkOr rfl | exact wkB0 | refine wkBx ?_ ?_ | refine wkOa ?_ | exact wr rfl | exact wE rfl rfl | exact wNV rfl | exact wLV rfl | exact wMs rfl rfl rfl rfl rfl | exact wCv rfl rfl | exact wCv' rfl rfl | exact wNil rfl rfl | exact wF rfl (LeC.fl _) | apply wV5 rfl | apply wCv rfl | apply wCv' rfl | apply wE rfl | apply wMs rfl rfl rfl rfl | refine wMs rfl rfl ?_ rfl ?_))))
  clear hU
  rintro ⟨k, w, n⟩ ⟨hk, hn, hw⟩
  simp only at hk hn hw
  have hlm : (w.map (GI .i64).g).length = n := by simpa using hn
  have hU : Fresh [64, 3] ⟨mkT [(0, .c (.sl 1 (l.map (GR .i16).g))), (3, .loc 3 0), (4, .ms 64 n), (5, .c (.v (.int .i64 k)))], mkM [(64, .arr 1 2 (w.map (GI .i64).g)), (3, .box (intsV w).ca)]⟩ := by exact fr
  cases hb : decide ((k : Int) < (l.length : Int))
  · (repeat' (first | refine CQ.seq ?_ | refine CQ.block ?_ | ((first | apply CQ.rT hU | apply CQ.rD hU); (· (repeat (first | exact RunL.nil | (apply RunL.op; (first | ((first | apply sv | (apply gv; (· rfl); (· rfl)) | (apply gvB; (· rfl); (· rfl); (· assumption))); (first | exact (lnG (G := GR .i16) rfl rfl rfl) | exact vv)) | exact gn rfl rfl rfl | exact gnU rfl rfl | exact gnB rfl rfl (by assumption) rfl | exact so oo | exact gR rfl rfl oo | exact so rr | exact gR rfl rfl rr | exact gRB rfl rfl (by assumption) oo | exact gRB rfl rfl (by assumption) rr))))); (· kernel_rfl); clear hU; intro hU) | refine CQ.condT rfl ?_ | refine CQ.condF rfl ?_ | refine CQ.condT (hbl ‹_›) ?_ | refine CQ.condF (hbl ‹_›) ?_ | refine CQ.ret ?_ | refine CQ.skip ?_ | refine CQ.exit ?_ | (apply CQ.cond rfl <;> intro hb)))
    refine CQ.loop hT (fun i : Nat => ⟨mkT [(3, .loc 3 0), (4, .ms 64 n), (12, .c (.v (.int .i64 i)))], mkM [(64, .arr 1 2 (w.map (GI .i64).g)), (3, .box (intsV w).ca)]⟩) (fun i => i ≤ n) (fun i => n - i) 0 (Nat.zero_le _) ?_ ?_
    · (refine wkS ?_ ?_; (all_goals (repeat' (first | exact wkB | refine wkP ?_ ?_ | exact wkMB | refine wkMP rfl ?_ ?_ | exact wkOr rfl | exact wkB0 | refine wkBx ?_ ?_ | refine wkOa ?_ | exact wr rfl | exact wE rfl rfl | exact wNV rfl | exact wLV rfl | exact wMs rfl rfl rfl rfl rfl | exact wCv rfl rfl | exact wCv' rfl rfl | exact wNil rfl rfl | exact wF rfl (LeC.fl _) | apply wV5 rfl | apply wCv rfl | apply wCv' rfl | apply wE rfl | apply wMs rfl rfl rfl rfl | refine wMs rfl rfl ?_ rfl ?_))))
    clear hU
    rintro i hi
    have hU : Fresh [64, 3] ⟨mkT [(3, .loc 3 0), (4, .ms 64 n), (12, .c (.v (.int .i64 i)))], mkM [(64, .arr 1 2 (w.map (GI .i64).g)), (3, .box (intsV w).ca)]⟩ := by exact fr
    cases hb2 : decide ((i : Int) < (n : Int))
    · have h1 := qDo_c (intsV w) sNth [intV' (n : Int)]
      rw [q_nthI (by omega), if_pos (by rw [hn]; simp)] at h1
      have h2 := qDo_c (intsV w) sNth [intV' (-1)]
      rw [q_nthI (by omega), show (decide ((-1 : Int) < 0) || decide ((-1 : Int) ≥ (w.length : Int))) = true from rfl, if_pos rfl] at h2
      (repeat' (first | refine CQ.seq ?_ | refine CQ.block ?_ | ((first | apply CQ.rT hU | apply CQ.rD hU); (· (repeat (first | exact RunL.nil | (apply RunL.op; (first | ((first | apply sv | (apply gv; (· rfl); (· rfl)) | (apply gvB; (· rfl); (· rfl); (· assumption))); (first | exact .callP rfl rfl ta ((int_c n)) | exact .callP rfl rfl ta ((int_c (-1))) | exact .callP rfl rfl ta (h1) | exact .callP rfl rfl ta (h2) | exact (lnM (G := GI .i64) rfl rfl (by assumption) rfl rfl) | exact vv)) | exact gn rfl rfl rfl | exact gnU rfl rfl | exact gnB rfl rfl (by assumption) rfl | exact so oo | exact gR rfl rfl oo | exact so rr | exact gR rfl rfl rr | exact gRB rfl rfl (by assumption) oo | exact gRB rfl rfl (by assumption) rr))))); (· kernel_rfl); clear hU; intro hU) | refine CQ.condT rfl ?_ | refine CQ.condF rfl ?_ | refine CQ.condT (hbl ‹_›) ?_ | refine CQ.condF (hbl ‹_›) ?_ | refine CQ.ret ?_ | refine CQ.skip ?_ | refine CQ.exit ?_ | (apply CQ.cond rfl <;> intro hb)))
      (repeat' (first | (apply retC; (first | (apply RetA.tmp; (repeat' (first | exact rfl | exact wE rfl rfl | exact wNV rfl | exact wLV rfl | exact wMs rfl rfl rfl rfl rfl | exact wCv rfl rfl | exact wCv' rfl rfl | exact wNil rfl rfl | exact wF rfl (LeC.fl _) | exact wF rfl (LeC.refl _) | apply wV5 rfl | apply wCv rfl | apply wCv' rfl | apply wE rfl | apply wMs rfl rfl rfl rfl | refine wMs rfl rfl ?_ rfl ?_))) | (apply RetA.cellS rfl rfl rfl rfl rfl; (repeat' (first | exact rfl | exact wE rfl rfl | exact wNV rfl | exact wLV rfl | exact wMs rfl rfl rfl rfl rfl | exact wCv rfl rfl | exact wCv' rfl rfl | exact wNil rfl rfl | exact wF rfl (LeC.fl _) | exact wF rfl (LeC.refl _) | apply wV5 rfl | apply wCv rfl | apply wCv' rfl | apply wE rfl | apply wMs rfl rfl rfl rfl | refine wMs rfl rfl ?_ rfl ?_))) | (apply RetA.cellW rfl rfl rfl rfl rfl; (repeat' (first | exact rfl | exact wE rfl rfl | exact wNV rfl | exact wLV rfl | exact wMs rfl rfl rfl rfl rfl | exact wCv rfl rfl | exact wCv' rfl rfl | exact wNil rfl rfl | exact wF rfl (LeC.fl _) | exact wF rfl (LeC.refl _) | apply wV5 rfl | apply wCv rfl | apply wCv' rfl | apply wE rfl | apply wMs rfl rfl rfl rfl | refine wMs rfl rfl ?_ rfl ?_))))) | exact retN))
    · have hi' : i < n := by simpa using hb2
      obtain ⟨y, hy⟩ : ∃ y, w[i]? = some y := ⟨w[i]'(by omega), List.getElem?_eq_getElem _⟩
      have h1 := qDo_c (intsV w) sNth [intV' (i : Int)]
      rw [q_nthI (by omega), if_neg (by rw [hn]; simp; omega), show (w.map intV').getD ((i : Nat) : Int).toNat nilV = intV' y by rw [Int.toNat_natCast]; simp [List.getD, hy]] at h1
      have e1 : ((intV' y).i != y) = false := by simp [intV']
      have e2 : (y != y) = false := by simp
      (repeat' (first | refine CQ.seq ?_ | refine CQ.block ?_ | ((first | apply CQ.rT hU | apply CQ.rD hU); (· (repeat (first | exact RunL.nil | (apply RunL.op; (first | ((first | apply sv | (apply gv; (· rfl); (· rfl)) | (apply gvB; (· rfl); (· rfl); (· assumption))); (first | exact .callP rfl rfl ta ((int_c i)) | exact .callP rfl rfl ta (h1) | exact (lnM (G := GI .i64) rfl rfl (by assumption) rfl rfl) | exact (ixM (G := GI .i64) rfl rfl (by assumption) rfl (by omega) (by omega) rfl rfl rfl rfl) | exact (ldM (G := GI .i64) (a := y) rfl rfl (by assumption) (by assumption) rfl rfl rfl rfl) | exact vv)) | exact gn rfl rfl rfl | exact gnU rfl rfl | exact gnB rfl rfl (by assumption) rfl | exact so oo | exact gR rfl rfl oo | exact so rr | exact gR rfl rfl rr | exact gRB rfl rfl (by assumption) oo | exact gRB rfl rfl (by assumption) rr))))); (· kernel_rfl); clear hU; intro hU) | refine CQ.condT rfl ?_ | refine CQ.condF rfl ?_ | refine CQ.condT (hbl ‹_›) ?_ | refine CQ.condF (hbl ‹_›) ?_ | refine CQ.ret ?_ | refine CQ.skip ?_ | refine CQ.exit ?_ | (apply CQ.cond rfl <;> intro hb)))
      refine ⟨i + 1, hi', by omega, ?_⟩
      (refine wkS ?_ ?_; (all_goals (repeat' (first | exact wkB | refine wkP ?_ ?_ | exact wkMB | refine wkMP rfl ?_ ?_ | exact wkOr rfl | exact wkB0 | refine wkBx ?_ ?_ | refine wkOa ?_ | exact wr rfl | exact wE rfl rfl | exact wNV rfl | exact wLV rfl | exact wMs rfl rfl rfl rfl rfl | exact wCv rfl rfl | exact wCv' rfl rfl | exact wNil rfl rfl | exact wF rfl (LeC.fl _) | apply wV5 rfl | apply wCv rfl | apply wCv' rfl | apply wE rfl | apply wMs rfl rfl rfl rfl | refine wMs rfl rfl ?_ rfl ?_))))
      rw [wrap_id (by omega) (by omega)]; rfl
  have hk' : k < l.length := by simpa using hb
  have hy := gy (G := GR .i16) (List.getElem?_eq_getElem hk')
  generalize l[k] = a at hy
  obtain ⟨a, ha⟩ := a
  cases hge : decide (a ≥ 0)
  · match w, hn, hlm with
    | [], hn, hlm =>
      obtain rfl : n = 0 := hn.symm
      have h1 := qDo_c (intsV []) sPop []
      rw [q_pop0] at h1
      (repeat' (first | refine CQ.seq ?_ | refine CQ.block ?_ | ((first | apply CQ.rT hU | apply CQ.rD hU); (· (repeat (first | exact RunL.nil | (apply RunL.op; (first | ((first | apply sv | (apply gv; (· rfl); (· rfl)) | (apply gvB; (· rfl); (· rfl); (· assumption))); (first | exact .callP rfl rfl ta (h1) | exact (lnG (G := GR .i16) rfl rfl rfl) | exact (.idxC rfl rfl (by omega) hy rfl rfl rfl rfl) | exact (lnM (G := GI .i64) rfl rfl (by assumption) rfl rfl) | exact vv)) | exact gn rfl rfl rfl | exact gnU rfl rfl | exact gnB rfl rfl (by assumption) rfl | exact so oo | exact gR rfl rfl oo | exact so rr | exact gR rfl rfl rr | exact gRB rfl rfl (by assumption) oo | exact gRB rfl rfl (by assumption) rr))))); (· kernel_rfl); clear hU; intro hU) | refine CQ.condT rfl ?_ | refine CQ.condF rfl ?_ | refine CQ.condT (hbl ‹_›) ?_ | refine CQ.condF (hbl ‹_›) ?_ | refine CQ.ret ?_ | refine CQ.skip ?_ | refine CQ.exit ?_ | (apply CQ.cond rfl <;> intro hb)))
      refine ⟨(k + 1, [], 0), ⟨hk', rfl, by simp⟩, by simp only; omega, ?_⟩
      refine Sim.wk ?_ hT
      (refine wkS ?_ ?_; (all_goals (repeat' (first | exact wkB | refine wkP ?_ ?_ | exact wkMB | refine wkMP rfl ?_ ?_ | exact wkOr rfl | exact wkB0 | refine wkBx ?_ ?_ | refine wkOa ?_ | exact wr rfl | exact wE rfl rfl | exact wNV rfl | exact wLV rfl | exact wMs rfl rfl rfl rfl rfl | exact wCv rfl rfl | exact wCv' rfl rfl | exact wNil rfl rfl | exact wF rfl (LeC.fl _) | apply wV5 rfl | apply wCv rfl | apply wCv' rfl | apply wE rfl | apply wMs rfl rfl rfl rfl | refine wMs rfl rfl ?_ rfl ?_))))
      rw [wrap_id (by omega) (by omega)]; rfl
    | y :: w', hn, hlm =>
      have h1 := qDo_c (intsV (y :: w')) sPop []
      rw [q_pop1 (by omega)] at h1
      have hn0 : 0 < n := by rw [← hn]; simp
      have e1 : ((n : Int) == 0) = false := by simp; omega
      have e2 : decide ((n : Int) > 0) = true := by simp; omega
      have hs := same_c (intV' y) (intV' y)
      rw [sameS_refl] at hs
      have hin := int_c y
      (repeat' (first | refine CQ.seq ?_ | refine CQ.block ?_ | ((first | apply CQ.rT hU | apply CQ.rD hU); (· (repeat (first | exact RunL.nil | (apply RunL.op; (first | ((first | apply sv | (apply gv; (· rfl); (· rfl)) | (apply gvB; (· rfl); (· rfl); (· assumption))); (first | exact .callP rfl rfl ta (h1) | exact .callP rfl rfl ta (hs) | exact .callP rfl rfl ta (hin) | exact (asW rfl) | exact (mvW rfl) | exact (lnG (G := GR .i16) rfl rfl rfl) | exact (.idxC rfl rfl (by omega) hy rfl rfl rfl rfl) | exact (lnM (G := GI .i64) rfl rfl (by assumption) rfl rfl) | exact (ixM (G := GI .i64) rfl rfl (by assumption) rfl (by decide) (by omega) rfl rfl rfl rfl) | exact (ldM (G := GI .i64) (a := y) rfl rfl (by assumption) rfl rfl rfl rfl rfl) | exact vv)) | exact gn rfl rfl rfl | exact gnU rfl rfl | exact gnB rfl rfl (by assumption) rfl | exact so ((.vwM (l := 1) (h := n) (c := none) rfl rfl hlm hn0 rfl rfl rfl rfl ⟨_, _, rfl, by decide, rfl⟩ ⟨rfl, rfl⟩ rfl hn0 (Nat.le_refl _) (Nat.le_refl _))) | exact gR rfl rfl ((.vwM (l := 1) (h := n) (c := none) rfl rfl hlm hn0 rfl rfl rfl rfl ⟨_, _, rfl, by decide, rfl⟩ ⟨rfl, rfl⟩ rfl hn0 (Nat.le_refl _) (Nat.le_refl _))) | exact gRB rfl rfl (by assumption) ((.vwM (l := 1) (h := n) (c := none) rfl rfl hlm hn0 rfl rfl rfl rfl ⟨_, _, rfl, by decide, rfl⟩ ⟨rfl, rfl⟩ rfl hn0 (Nat.le_refl _) (Nat.le_refl _))) | exact so oo | exact gR rfl rfl oo | exact so rr | exact gR rfl rfl rr | exact gRB rfl rfl (by assumption) oo | exact gRB rfl rfl (by assumption) rr))))); (· kernel_rfl); clear hU; intro hU) | refine CQ.condT rfl ?_ | refine CQ.condF rfl ?_ | refine CQ.condT (hbl ‹_›) ?_ | refine CQ.condF (hbl ‹_›) ?_ | refine CQ.ret ?_ | refine CQ.skip ?_ | refine CQ.exit ?_ | (apply CQ.cond rfl <;> intro hb)))
      refine ⟨(k + 1, w', n - 1), ⟨hk', by simp at hn ⊢; omega, by simp only; omega⟩, by simp only; omega, ?_⟩
      refine (Sim.settle 64 n 1 n 200 [(0, .c (.sl 1 (l.map (GR .i16).g))), (3, .loc 3 0), (4, .mv 64 n 1 n none), (5, .c (.v (.int .i64 ((k + 1 : Nat) : Int))))] [(0, .c (.sl 1 (l.map (GR .i16).g))), (3, .loc 3 0), (4, .ms 200 (n - 1)), (5, .c (.v (.int .i64 ((k + 1 : Nat) : Int))))]
        (sz := 1) (e := 2) (xs := (y :: w').map (GI .i64).g) [(3, .box (intsV w').ca)] [64, 3] hT ?_ frW rfl rfl hlm hn0 hn0 (Nat.le_refl _) rfl (by decide) ?_).trans
        (Sim.swap 200 64 [(0, .c (.sl 1 (l.map (GR .i16).g))), (3, .loc 3 0), (4, .ms 200 (n - 1)), (5, .c (.v (.int .i64 ((k + 1 : Nat) : Int))))] _ [(200, .arr 1 2 (w'.map (GI .i64).g)), (3, .box (intsV w').ca)] _ hT ?_ rfl ?_ ?_)
      · (refine wkS ?_ ?_; (all_goals (repeat' (first | exact wkB | refine wkP ?_ ?_ | exact wkMB | refine wkMP rfl ?_ ?_ | exact wkOr rfl | exact wkB0 | refine wkBx ?_ ?_ | refine wkOa ?_ | exact wr rfl | exact wE rfl rfl | exact wNV rfl | exact wLV rfl | exact wMs rfl rfl rfl rfl rfl | exact wCv rfl rfl | exact wCv' rfl rfl | exact wNil rfl rfl | exact wF rfl (LeC.fl _) | apply wV5 rfl | apply wCv rfl | apply wCv' rfl | apply wE rfl | apply wMs rfl rfl rfl rfl | refine wMs rfl rfl ?_ rfl ?_))))
        rw [wrap_id (by omega) (by omega)]; rfl
      · exact .cons (.refl _) (.cons (.refl _) (.cons .view (.cons (.refl _) .nil)))
      · (refine wkS ?_ ?_; (all_goals (repeat' (first | exact wkB | refine wkP ?_ ?_ | exact wkMB | refine wkMP rfl ?_ ?_ | exact wkOr rfl | exact wkB0 | refine wkBx ?_ ?_ | refine wkOa ?_ | exact wr rfl | exact wE rfl rfl | exact wNV rfl | exact wLV rfl | exact wMs rfl rfl rfl rfl rfl | exact wCv rfl rfl | exact wCv' rfl rfl | exact wNil rfl rfl | exact wF rfl (LeC.fl _) | apply wV5 rfl | apply wCv rfl | apply wCv' rfl | apply wE rfl | apply wMs rfl rfl rfl rfl | refine wMs rfl rfl ?_ rfl ?_))))
        show (((y :: w').map (GI .i64).g).drop 1).take (n - 1) = _
        rw [List.take_of_length_le (by simp at hn ⊢; omega)]; rfl
      · exact .cons (.c _) (.cons (.loc rfl) (.cons (.ms rfl) (.cons (.c _) .nil)))
      · exact .cons rfl (.arr _ _ _) (.cons rfl (.box (.all (intsV w').cc)) .nil)
  · have hin := int_c (IntKind.i64.wrap a)
    have h1 := qDo_c (intsV w) sPush [intV' (IntKind.i64.wrap a)]
    rw [q_pushI (by omega), hn] at h1
    cases h32 : decide ((n : Int) ≥ 32)
    · rw [h32, if_neg (by decide)] at h1
      have e1 : ((intV' ((n + 1 : Nat) : Int)).i != ((n + [IntKind.i64.wrap a].length : Nat) : Int)) = false := by simp [intV']
      have hbb : n + [IntKind.i64.wrap a].length ≤ 1000000 := by simp; omega
      (repeat' (first | refine CQ.seq ?_ | refine CQ.block ?_ | ((first | apply CQ.rT hU | apply CQ.rD hU); (· (repeat (first | exact RunL.nil | (apply RunL.op; (first | ((first | apply sv | (apply gv; (· rfl); (· rfl)) | (apply gvB; (· rfl); (· rfl); (· assumption))); (first | exact .callP rfl rfl ta (h1) | exact .callP rfl rfl ta (hin) | exact (lnG (G := GR .i16) rfl rfl rfl) | exact (.idxC rfl rfl (by omega) hy rfl rfl rfl rfl) | exact (lnM (G := GI .i64) (l := w) rfl rfl (by assumption) rfl rfl) | exact (lnM (G := GI .i64) (l := w ++ [IntKind.i64.wrap a]) rfl rfl (by simp [hn]) rfl rfl) | exact (bsG (G := GI .i64) (vs := [IntKind.i64.wrap a]) (.cons (tE rfl) .nil) rfl rfl rfl rfl rfl rfl rfl rfl) | exact vv)) | exact gn rfl rfl rfl | exact gnU rfl rfl | exact gnB rfl rfl (by assumption) rfl | exact so ((apMG (G := GI .i64) (xs := w) (ys := [IntKind.i64.wrap a]) rfl rfl hn rfl rfl rfl rfl rfl rfl rfl hbb (Nat.le_of_ble_eq_true rfl))) | exact gR rfl rfl ((apMG (G := GI .i64) (xs := w) (ys := [IntKind.i64.wrap a]) rfl rfl hn rfl rfl rfl rfl rfl rfl rfl hbb (Nat.le_of_ble_eq_true rfl))) | exact gRB rfl rfl (by assumption) ((apMG (G := GI .i64) (xs := w) (ys := [IntKind.i64.wrap a]) rfl rfl hn rfl rfl rfl rfl rfl rfl rfl hbb (Nat.le_of_ble_eq_true rfl))) | exact so oo | exact gR rfl rfl oo | exact so rr | exact gR rfl rfl rr | exact gRB rfl rfl (by assumption) oo | exact gRB rfl rfl (by assumption) rr))))); (· kernel_rfl); clear hU; intro hU) | refine CQ.condT rfl ?_ | refine CQ.condF rfl ?_ | refine CQ.condT (hbl ‹_›) ?_ | refine CQ.condF (hbl ‹_›) ?_ | refine CQ.ret ?_ | refine CQ.skip ?_ | refine CQ.exit ?_ | (apply CQ.cond rfl <;> intro hb)))
      refine ⟨(k + 1, w ++ [IntKind.i64.wrap a], n + [IntKind.i64.wrap a].length), ⟨hk', by simp [hn], by simp at h32 ⊢; omega⟩, by simp only; omega, ?_⟩
      refine Sim.wk ?_ hT
      (refine wkS ?_ ?_; (all_goals (repeat' (first | exact wkB | refine wkP ?_ ?_ | exact wkMB | refine wkMP rfl ?_ ?_ | exact wkOr rfl | exact wkB0 | refine wkBx ?_ ?_ | refine wkOa ?_ | exact wr rfl | exact wE rfl rfl | exact wNV rfl | exact wLV rfl | exact wMs rfl rfl rfl rfl rfl | exact wCv rfl rfl | exact wCv' rfl rfl | exact wNil rfl rfl | exact wF rfl (LeC.fl _) | apply wV5 rfl | apply wCv rfl | apply wCv' rfl | apply wE rfl | apply wMs rfl rfl rfl rfl | refine wMs rfl rfl ?_ rfl ?_))))
      rw [wrap_id (by omega) (by omega)]; rfl
    · rw [h32, if_pos rfl] at h1
      (repeat' (first | refine CQ.seq ?_ | refine CQ.block ?_ | ((first | apply CQ.rT hU | apply CQ.rD hU); (· (repeat (first | exact RunL.nil | (apply RunL.op; (first | ((first | apply sv | (apply gv; (· rfl); (· rfl)) | (apply gvB; (· rfl); (· rfl); (· assumption))); (first | exact .callP rfl rfl ta (h1) | exact .callP rfl rfl ta (hin) | exact (lnG (G := GR .i16) rfl rfl rfl) | exact (.idxC rfl rfl (by omega) hy rfl rfl rfl rfl) | exact (lnM (G := GI .i64) rfl rfl (by assumption) rfl rfl) | exact vv)) | exact gn rfl rfl rfl | exact gnU rfl rfl | exact gnB rfl rfl (by assumption) rfl | exact so oo | exact gR rfl rfl oo | exact so rr | exact gR rfl rfl rr | exact gRB rfl rfl (by assumption) oo | exact gRB rfl rfl (by assumption) rr))))); (· kernel_rfl); clear hU; intro hU) | refine CQ.condT rfl ?_ | refine CQ.condF rfl ?_ | refine CQ.condT (hbl ‹_›) ?_ | refine CQ.condF (hbl ‹_›) ?_ | refine CQ.ret ?_ | refine CQ.skip ?_ | refine CQ.exit ?_ | (apply CQ.cond rfl <;> intro hb)))
      refine ⟨(k + 1, w, n), ⟨hk', hn, hw⟩, by simp only; omega, ?_⟩
      refine Sim.wk ?_ hT
      (refine wkS ?_ ?_; (all_goals (repeat' (first | exact wkB | refine wkP ?_ ?_ | exact wkMB | refine wkMP rfl ?_ ?_ | exact wkOr rfl | exact wkB0 | refine wkBx ?_ ?_ | refine wkOa ?_ | exact wr rfl | exact wE rfl rfl | exact wNV rfl | exact wLV rfl | exact wMs rfl rfl rfl rfl rfl | exact wCv rfl rfl | exact wCv' rfl rfl | exact wNil rfl rfl | exact wF rfl (LeC.fl _) | apply wV5 rfl | apply wCv rfl | apply wCv' rfl | apply wE rfl | apply wMs rfl rfl rfl rfl | refine wMs rfl rfl ?_ rfl ?_))))
      rw [wrap_id (by omega) (by omega)]; rfl
end Go.Proofs.Ytbjcckjhfjhicaa
