/- Walks: the counter's further laws. -/
import Derived.Test.YtbjcckjhfjhicaaG7
namespace Go.Proofs.Ytbjcckjhfjhicaa
open Go Go.AM
set_option linter.unusedVariables false
set_option maxHeartbeats 4000000
set_option maxRecDepth 100000
set_option linter.unusedSimpArgs false

theorem cntOk_cntV {i : Int} (f : Nat) (h : 0 ≤ i) : cntOk (cntV i f) = true := by
  show (((4 : Int) == 4) && (((2 : Nat) : Int) == 2 && ((1 : Int) == 1 && (decide (i ≥ 0) && (2 : Int) == 2)))) = true
  rw [decide_eq_true h]; rfl
theorem cntS_cntV {i : Int} (f : Nat) (h : 0 ≤ i) (m : ByteArray) (l : List V) : cntS (cntV i f) m l = if checkR sCounter m l != 0 then (nilV, nilV, checkR sCounter m l) else cnt1S i (bitsF f) m l := by
  unfold cntS
  rw [cntOk_cntV f h]
  rfl
theorem cnt_next {i : Int} {f : Nat} {m : ByteArray} {l : List V} (h0 : 0 ≤ i) (h1 : i ≤ 1000) (h : (cntS (cntV i f) m l).2.2 = 0) : ∃ i' f', (cntS (cntV i f) m l).1 = cntV i' f' ∧ 0 ≤ i' ∧ i' ≤ i + 1 := by
  rw [cntS_cntV f h0] at h ⊢
  split at h
  · rename_i hc
    have hc' : (checkR sCounter m l != 0) = true := hc
    simp at hc'; exact absurd h hc'
  · rename_i hc
    rw [if_neg hc]
    unfold cnt1S at h ⊢
    split
    · rename_i ha
      rw [if_pos ha] at h
      unfold addS at h ⊢
      split
      · rename_i hm; rw [if_pos hm] at h; cases h
      · exact ⟨_, _, rfl, by rw [wrap_id (by omega) (by omega)]; omega, by rw [wrap_id (by omega) (by omega)]; omega⟩
    · split
      · exact ⟨_, _, rfl, h0, by omega⟩
      · split
        · exact ⟨0, 0, rfl, Int.le_refl _, by omega⟩
        · exact ⟨_, _, rfl, h0, by omega⟩
theorem counterPlays_c (l : List Act) : Pure env.P 19 [.sl 2 (l.map GA.g)] [.v (.bool true)] := by
  refine Pure.fact 0 rfl ⟨_, Try.func19, rfl, rfl⟩ (fun _ _ _ h => acts_len h) ?_; intro hlen; refine Pure.go (E := env) Try.func19 rfl rfl rfl (Nat.le_of_ble_eq_true rfl) (Nat.le_of_ble_eq_true rfl) ?_; rintro ⟨w0, T0, L0, n, r0, hn0, hT0⟩ hn hT hU; obtain rfl : n = _ := hn
  have hkn := knownCnt_c
  have hst := startR_c sCounter
  rw [show startS sCounter = (counterV, true) by unfold startS; simp only [ByteArray.toList_eq]; rfl] at hst
  cases h60 : decide ((l.length : Int) > 60)
  rotate_left
  · (repeat' (first | refine CQ.seq ?_ | refine CQ.block ?_ | ((first | apply CQ.rT hU | apply CQ.rD hU); (· (repeat (first | exact RunL.nil | (apply RunL.op; (first | ((first | apply sv | (apply gv; (· rfl); (· rfl)) | (apply gvB; (· rfl); (· rfl); (· assumption))); (first | exact .callP rfl rfl ta (hkn) | exact (lnG (G := GA) rfl rfl rfl) | exact vv)) | exact gn rfl rfl rfl | exact gnU rfl rfl | exact gnB rfl rfl (by assumption) rfl | exact so oo | exact gR rfl rfl oo | exact so rr | exact gR rfl rfl rr | exact gRB rfl rfl (by assumption) oo | exact gRB rfl rfl (by assumption) rr))))); (· kernel_rfl); clear hU; intro hU) | refine CQ.condT rfl ?_ | refine CQ.condF rfl ?_ | refine CQ.condT (hbl ‹_›) ?_ | refine CQ.condF (hbl ‹_›) ?_ | refine CQ.ret ?_ | refine CQ.skip ?_ | refine CQ.exit ?_ | (apply CQ.cond rfl <;> intro hb)))
    (repeat' (first | (apply retC; (first | (apply RetA.tmp; (repeat' (first | exact rfl | exact wE rfl rfl | exact wNV rfl | exact wLV rfl | exact wMs rfl rfl rfl rfl rfl | exact wCv rfl rfl | exact wCv' rfl rfl | exact wNil rfl rfl | exact wF rfl (LeC.fl _) | exact wF rfl (LeC.refl _) | apply wV5 rfl | apply wCv rfl | apply wCv' rfl | apply wE rfl | apply wMs rfl rfl rfl rfl | refine wMs rfl rfl ?_ rfl ?_))) | (apply RetA.cellS rfl rfl rfl rfl rfl; (repeat' (first | exact rfl | exact wE rfl rfl | exact wNV rfl | exact wLV rfl | exact wMs rfl rfl rfl rfl rfl | exact wCv rfl rfl | exact wCv' rfl rfl | exact wNil rfl rfl | exact wF rfl (LeC.fl _) | exact wF rfl (LeC.refl _) | apply wV5 rfl | apply wCv rfl | apply wCv' rfl | apply wE rfl | apply wMs rfl rfl rfl rfl | refine wMs rfl rfl ?_ rfl ?_))) | (apply RetA.cellW rfl rfl rfl rfl rfl; (repeat' (first | exact rfl | exact wE rfl rfl | exact wNV rfl | exact wLV rfl | exact wMs rfl rfl rfl rfl rfl | exact wCv rfl rfl | exact wCv' rfl rfl | exact wNil rfl rfl | exact wF rfl (LeC.fl _) | exact wF rfl (LeC.refl _) | apply wV5 rfl | apply wCv rfl | apply wCv' rfl | apply wE rfl | apply wMs rfl rfl rfl rfl | refine wMs rfl rfl ?_ rfl ?_))))) | exact retN))
  have hl60 : l.length ≤ 60 := by simp at h60; omega
  (repeat' (first | refine CQ.seq ?_ | refine CQ.block ?_ | ((first | apply CQ.rT hU | apply CQ.rD hU); (· (repeat (first | exact RunL.nil | (apply RunL.op; (first | ((first | apply sv | (apply gv; (· rfl); (· rfl)) | (apply gvB; (· rfl); (· rfl); (· assumption))); (first | exact .callP rfl rfl ta (hkn) | exact (lnG (G := GA) rfl rfl rfl) | exact .callP rfl rfl ta (hst) | exact vv)) | exact gn rfl rfl rfl | exact gnU rfl rfl | exact gnB rfl rfl (by assumption) rfl | exact so oo | exact gR rfl rfl oo | exact so rr | exact gR rfl rfl rr | exact gRB rfl rfl (by assumption) oo | exact gRB rfl rfl (by assumption) rr))))); (· kernel_rfl); clear hU; intro hU) | refine CQ.condT rfl ?_ | refine CQ.condF rfl ?_ | refine CQ.condT (hbl ‹_›) ?_ | refine CQ.condF (hbl ‹_›) ?_ | refine CQ.ret ?_ | refine CQ.skip ?_ | refine CQ.exit ?_ | (apply CQ.cond rfl <;> intro hb)))
  refine CQ.loop hT (fun x : Nat × V => ⟨mkT [(0, .c (.sl 2 (l.map GA.g))), (3, .loc 3 0), (5, .c (.v (.int .i64 x.1)))], mkM [(3, .box x.2.ca)]⟩) (fun x => x.1 ≤ l.length ∧ ∃ i f, x.2 = cntV i f ∧ 0 ≤ i ∧ i ≤ x.1) (fun x => l.length - x.1) (0, counterV) ⟨Nat.zero_le _, 0, 0, rfl, Int.le_refl _, Int.le_refl _⟩ ?_ ?_
  · (refine wkS ?_ ?_; (all_goals (repeat' (first | exact wkB | refine wkP ?_ ?_ | exact wkMB | refine wkMP rfl ?_ ?_ | exact wkOr rfl | exact wkB0 | refine wkBx ?_ ?_ | refine wkOa ?_ | exact wr rfl | exact wE rfl rfl | exact wNV rfl | exact wLV rfl | exact wMs rfl rfl rfl rfl rfl | exact wCv rfl rfl | exact wCv' rfl rfl | exact wNil rfl rfl | exact wF rfl (LeC.fl _) | apply wV5 rfl | apply wCv rfl | apply wCv' rfl | apply wE rfl | apply wMs rfl rfl rfl rfl | refine wMs rfl rfl ?_ rfl ?_))))
  clear hU
  rintro ⟨k, s⟩ ⟨hk, i0, f0, hs, hi0, hik⟩
  simp only at hk hs hik
  have hU : Fresh [3] ⟨mkT [(0, .c (.sl 2 (l.map GA.g))), (3, .loc 3 0), (5, .c (.v (.int .i64 k)))], mkM [(3, .box s.ca)]⟩ := by exact fr
  cases hb : decide ((k : Int) < (l.length : Int))
  · (repeat' (first | refine CQ.seq ?_ | refine CQ.block ?_ | ((first | apply CQ.rT hU | apply CQ.rD hU); (· (repeat (first | exact RunL.nil | (apply RunL.op; (first | ((first | apply sv | (apply gv; (· rfl); (· rfl)) | (apply gvB; (· rfl); (· rfl); (· assumption))); (first | exact (lnG (G := GA) rfl rfl rfl) | exact vv)) | exact gn rfl rfl rfl | exact gnU rfl rfl | exact gnB rfl rfl (by assumption) rfl | exact so oo | exact gR rfl rfl oo | exact so rr | exact gR rfl rfl rr | exact gRB rfl rfl (by assumption) oo | exact gRB rfl rfl (by assumption) rr))))); (· kernel_rfl); clear hU; intro hU) | refine CQ.condT rfl ?_ | refine CQ.condF rfl ?_ | refine CQ.condT (hbl ‹_›) ?_ | refine CQ.condF (hbl ‹_›) ?_ | refine CQ.ret ?_ | refine CQ.skip ?_ | refine CQ.exit ?_ | (apply CQ.cond rfl <;> intro hb)))
    (repeat' (first | (apply retC; (first | (apply RetA.tmp; (repeat' (first | exact rfl | exact wE rfl rfl | exact wNV rfl | exact wLV rfl | exact wMs rfl rfl rfl rfl rfl | exact wCv rfl rfl | exact wCv' rfl rfl | exact wNil rfl rfl | exact wF rfl (LeC.fl _) | exact wF rfl (LeC.refl _) | apply wV5 rfl | apply wCv rfl | apply wCv' rfl | apply wE rfl | apply wMs rfl rfl rfl rfl | refine wMs rfl rfl ?_ rfl ?_))) | (apply RetA.cellS rfl rfl rfl rfl rfl; (repeat' (first | exact rfl | exact wE rfl rfl | exact wNV rfl | exact wLV rfl | exact wMs rfl rfl rfl rfl rfl | exact wCv rfl rfl | exact wCv' rfl rfl | exact wNil rfl rfl | exact wF rfl (LeC.fl _) | exact wF rfl (LeC.refl _) | apply wV5 rfl | apply wCv rfl | apply wCv' rfl | apply wE rfl | apply wMs rfl rfl rfl rfl | refine wMs rfl rfl ?_ rfl ?_))) | (apply RetA.cellW rfl rfl rfl rfl rfl; (repeat' (first | exact rfl | exact wE rfl rfl | exact wNV rfl | exact wLV rfl | exact wMs rfl rfl rfl rfl rfl | exact wCv rfl rfl | exact wCv' rfl rfl | exact wNil rfl rfl | exact wF rfl (LeC.fl _) | exact wF rfl (LeC.refl _) | apply wV5 rfl | apply wCv rfl | apply wCv' rfl | apply wE rfl | apply wMs rfl rfl rfl rfl | refine wMs rfl rfl ?_ rfl ?_))))) | exact retN))
  have hk' : k < l.length := by simpa using hb
  have hy := gy (G := GA) (List.getElem?_eq_getElem hk')
  generalize l[k] = act at hy
  obtain ⟨⟨b, hb256⟩, a⟩ := act
  have h2 := lights_c a
  cases hl : lightsS a
  · rw [hl] at h2
    (repeat' (first | refine CQ.seq ?_ | refine CQ.block ?_ | ((first | apply CQ.rT hU | apply CQ.rD hU); (· (repeat (first | exact RunL.nil | (apply RunL.op; (first | ((first | apply sv | (apply gv; (· rfl); (· rfl)) | (apply gvB; (· rfl); (· rfl); (· assumption))); (first | exact (lnG (G := GA) rfl rfl rfl) | exact (.idxC rfl rfl (by omega) (by assumption) rfl rfl rfl rfl) | exact .callP rfl rfl ta (h2) | exact vv)) | exact gn rfl rfl rfl | exact gnU rfl rfl | exact gnB rfl rfl (by assumption) rfl | exact so oo | exact gR rfl rfl oo | exact so rr | exact gR rfl rfl rr | exact gRB rfl rfl (by assumption) oo | exact gRB rfl rfl (by assumption) rr))))); (· kernel_rfl); clear hU; intro hU) | refine CQ.condT rfl ?_ | refine CQ.condF rfl ?_ | refine CQ.condT (hbl ‹_›) ?_ | refine CQ.condF (hbl ‹_›) ?_ | refine CQ.ret ?_ | refine CQ.skip ?_ | refine CQ.exit ?_ | (apply CQ.cond rfl <;> intro hb)))
    (repeat' (first | (apply retC; (first | (apply RetA.tmp; (repeat' (first | exact rfl | exact wE rfl rfl | exact wNV rfl | exact wLV rfl | exact wMs rfl rfl rfl rfl rfl | exact wCv rfl rfl | exact wCv' rfl rfl | exact wNil rfl rfl | exact wF rfl (LeC.fl _) | exact wF rfl (LeC.refl _) | apply wV5 rfl | apply wCv rfl | apply wCv' rfl | apply wE rfl | apply wMs rfl rfl rfl rfl | refine wMs rfl rfl ?_ rfl ?_))) | (apply RetA.cellS rfl rfl rfl rfl rfl; (repeat' (first | exact rfl | exact wE rfl rfl | exact wNV rfl | exact wLV rfl | exact wMs rfl rfl rfl rfl rfl | exact wCv rfl rfl | exact wCv' rfl rfl | exact wNil rfl rfl | exact wF rfl (LeC.fl _) | exact wF rfl (LeC.refl _) | apply wV5 rfl | apply wCv rfl | apply wCv' rfl | apply wE rfl | apply wMs rfl rfl rfl rfl | refine wMs rfl rfl ?_ rfl ?_))) | (apply RetA.cellW rfl rfl rfl rfl rfl; (repeat' (first | exact rfl | exact wE rfl rfl | exact wNV rfl | exact wLV rfl | exact wMs rfl rfl rfl rfl rfl | exact wCv rfl rfl | exact wCv' rfl rfl | exact wNil rfl rfl | exact wF rfl (LeC.fl _) | exact wF rfl (LeC.refl _) | apply wV5 rfl | apply wCv rfl | apply wCv' rfl | apply wE rfl | apply wMs rfl rfl rfl rfl | refine wMs rfl rfl ?_ rfl ?_))))) | exact retN))
  rw [hl] at h2
  have hm := methodCounter_c b hb256
  generalize pickM (methodsS methRCounter) b = m at hm
  have h5 := cntDo_c s m a
  have h6 := cntRef_c s m a
  have h7 := same_c (cntS s m a).1 (cntS s m a).1
  have h8 := same_c (cntS s m a).2.1 (cntS s m a).2.1
  rw [sameS_refl] at h7 h8
  have hr := rightCnt_c (cntS s m a).1
  have e1 : ((cntS s m a).2.2 != (cntS s m a).2.2) = false := by simp
  cases h0 : ((cntS s m a).2.2 == 0)
  · (repeat' (first | refine CQ.seq ?_ | refine CQ.block ?_ | ((first | apply CQ.rT hU | apply CQ.rD hU); (· (repeat (first | exact RunL.nil | (apply RunL.op; (first | ((first | apply sv | (apply gv; (· rfl); (· rfl)) | (apply gvB; (· rfl); (· rfl); (· assumption))); (first | exact (lnG (G := GA) rfl rfl rfl) | exact (.idxC rfl rfl (by omega) (by assumption) rfl rfl rfl rfl) | exact .callP rfl rfl ta (h2) | exact .callP rfl rfl ta (hm) | exact .callP rfl rfl ta (h5) | exact .callP rfl rfl ta (h6) | exact .callP rfl rfl ta (h7) | exact .callP rfl rfl ta (h8) | exact vv)) | exact gn rfl rfl rfl | exact gnU rfl rfl | exact gnB rfl rfl (by assumption) rfl | exact so oo | exact gR rfl rfl oo | exact so rr | exact gR rfl rfl rr | exact gRB rfl rfl (by assumption) oo | exact gRB rfl rfl (by assumption) rr))))); (· kernel_rfl); clear hU; intro hU) | refine CQ.condT rfl ?_ | refine CQ.condF rfl ?_ | refine CQ.condT (hbl ‹_›) ?_ | refine CQ.condF (hbl ‹_›) ?_ | refine CQ.ret ?_ | refine CQ.skip ?_ | refine CQ.exit ?_ | (apply CQ.cond rfl <;> intro hb)))
    refine ⟨(k + 1, s), ⟨hk', i0, f0, hs, hi0, by simp only; omega⟩, by simp only; omega, ?_⟩
    (refine wkS ?_ ?_; (all_goals (repeat' (first | exact wkB | refine wkP ?_ ?_ | exact wkMB | refine wkMP rfl ?_ ?_ | exact wkOr rfl | exact wkB0 | refine wkBx ?_ ?_ | refine wkOa ?_ | exact wr rfl | exact wE rfl rfl | exact wNV rfl | exact wLV rfl | exact wMs rfl rfl rfl rfl rfl | exact wCv rfl rfl | exact wCv' rfl rfl | exact wNil rfl rfl | exact wF rfl (LeC.fl _) | apply wV5 rfl | apply wCv rfl | apply wCv' rfl | apply wE rfl | apply wMs rfl rfl rfl rfl | refine wMs rfl rfl ?_ rfl ?_))))
    rw [wrapS hk' hlen]
  · obtain ⟨i1, f1, hn1, hn2, hn3⟩ := cnt_next (f := f0) (m := m) (l := a) hi0 (by omega) (by rw [← hs]; simpa using h0)
    rw [← hs] at hn1
    rw [show cntOk (cntS s m a).1 = true by rw [hn1]; exact cntOk_cntV _ hn2] at hr
    (repeat' (first | refine CQ.seq ?_ | refine CQ.block ?_ | ((first | apply CQ.rT hU | apply CQ.rD hU); (· (repeat (first | exact RunL.nil | (apply RunL.op; (first | ((first | apply sv | (apply gv; (· rfl); (· rfl)) | (apply gvB; (· rfl); (· rfl); (· assumption))); (first | exact (lnG (G := GA) rfl rfl rfl) | exact (.idxC rfl rfl (by omega) (by assumption) rfl rfl rfl rfl) | exact .callP rfl rfl ta (h2) | exact .callP rfl rfl ta (hm) | exact .callP rfl rfl ta (h5) | exact .callP rfl rfl ta (h6) | exact .callP rfl rfl ta (h7) | exact .callP rfl rfl ta (h8) | exact .callP rfl rfl ta (hr) | exact vv)) | exact gn rfl rfl rfl | exact gnU rfl rfl | exact gnB rfl rfl (by assumption) rfl | exact so oo | exact gR rfl rfl oo | exact so rr | exact gR rfl rfl rr | exact gRB rfl rfl (by assumption) oo | exact gRB rfl rfl (by assumption) rr))))); (· kernel_rfl); clear hU; intro hU) | refine CQ.condT rfl ?_ | refine CQ.condF rfl ?_ | refine CQ.condT (hbl ‹_›) ?_ | refine CQ.condF (hbl ‹_›) ?_ | refine CQ.ret ?_ | refine CQ.skip ?_ | refine CQ.exit ?_ | (apply CQ.cond rfl <;> intro hb)))
    refine ⟨(k + 1, (cntS s m a).1), ⟨hk', i1, f1, hn1, hn2, by simp only; omega⟩, by simp only; omega, ?_⟩
    (refine wkS ?_ ?_; (all_goals (repeat' (first | exact wkB | refine wkP ?_ ?_ | exact wkMB | refine wkMP rfl ?_ ?_ | exact wkOr rfl | exact wkB0 | refine wkBx ?_ ?_ | refine wkOa ?_ | exact wr rfl | exact wE rfl rfl | exact wNV rfl | exact wLV rfl | exact wMs rfl rfl rfl rfl rfl | exact wCv rfl rfl | exact wCv' rfl rfl | exact wNil rfl rfl | exact wF rfl (LeC.fl _) | apply wV5 rfl | apply wCv rfl | apply wCv' rfl | apply wE rfl | apply wMs rfl rfl rfl rfl | refine wMs rfl rfl ?_ rfl ?_))))
    rw [wrapS hk' hlen]

/-! sums -/
theorem addF_nanL {b c : Nat} (a : Nat) (hb : fnan b) (hc : fnan c) : addF b a = addF c a := by
  unfold fnan Ieee.Format.order at hb hc
  unfold addF Ieee.Format.add
  rw [sum_nan_left hb, sum_nan_left hc]
theorem addF_bitsL (a b : Nat) : addF (bitsF a) b = addF a b := by
  rcases ord_self a with h | h
  · rw [bitsF_nan h]; exact addF_nanL b nanB_nan h
  · rw [bitsF_num h]
theorem check_add (q : Nat) : checkR sCounter sAdd [fltV q] = 0 := by
  unfold checkR findS
  rw [methR_cnt]
  simp only [ByteArray.toList_eq]
  rfl
theorem check_cnt0 : checkR sCounter sCount [] = 0 ∧ checkR sCounter sTotal [] = 0 ∧ checkR sCounter sReset [] = 0 := by
  refine ⟨?_, ?_, ?_⟩ <;> (unfold checkR findS; rw [methR_cnt]; simp only [ByteArray.toList_eq]; rfl)
theorem cnt1_add (i : Int) (f : Nat) (l : List V) : cnt1S i f sAdd l = addS i f (l.getD 0 nilV) := by
  unfold cnt1S; rw [if_pos (by simp only [ByteArray.toList_eq]; rfl)]
theorem cnt1_count (i : Int) (f : Nat) (l : List V) : cnt1S i f sCount l = (cntV i f, intV' i, 0) := by
  unfold cnt1S; rw [if_neg (by simp only [ByteArray.toList_eq]; decide), if_pos (by simp only [ByteArray.toList_eq]; rfl)]
theorem cnt1_reset (i : Int) (f : Nat) (l : List V) : cnt1S i f sReset l = (counterV, fltV f, 0) := by
  unfold cnt1S; rw [if_neg (by simp only [ByteArray.toList_eq]; decide), if_neg (by simp only [ByteArray.toList_eq]; decide), if_pos (by simp only [ByteArray.toList_eq]; rfl)]
theorem cnt1_total (i : Int) (f : Nat) (l : List V) : cnt1S i f sTotal l = (cntV i f, fltV f, 0) := by
  unfold cnt1S; rw [if_neg (by simp only [ByteArray.toList_eq]; decide), if_neg (by simp only [ByteArray.toList_eq]; decide), if_neg (by simp only [ByteArray.toList_eq]; decide)]
/-- Adding to what has the sum S adds to the sum. -/
theorem cnt_sum {k : Nat} (S x : Nat) (hk : k < 1000) : cntS (cntV k (bitsF S)) sAdd [fltV (bitsF x)] = (cntV ((k + 1 : Nat) : Int) (bitsF (addF S x)), fltV (bitsF (addF S x)), 0) := by
  rw [cntS_cntV _ (by omega), check_add, if_neg (by decide), cnt1_add, bitsF_idem]
  show addS (k : Int) (bitsF S) (fltV (bitsF x)) = _
  unfold addS
  rw [if_neg (by simp; omega), show realF (fltV (bitsF x)) = bitsF x from rfl, addF_bits, addF_bitsL, wrap_id (by omega) (by omega)]
  rfl
theorem floats_len {w : World} {L : Nat → Prop} {u : Value} {l : List Nat} (h : Rep w L u (.sl 1 (l.map GF.g))) : l.length ≤ maxLen := gl_len (G := GF) h
def sumTo (l : List Nat) (k : Nat) : Nat := (l.take k).foldl addF 0
theorem sumTo_succ {l : List Nat} {k : Nat} (h : k < l.length) : sumTo l (k + 1) = addF (sumTo l k) l[k] := by
  unfold sumTo; rw [List.take_succ_eq_append_getElem h, List.foldl_append]; rfl
theorem counterSums_c (l : List Nat) : Pure env.P 17 [.sl 1 (l.map GF.g)] [.v (.bool true)] := by
  refine Pure.fact 0 rfl ⟨_, Try.func17, rfl, rfl⟩ (fun _ _ _ h => floats_len h) ?_; intro hlen; refine Pure.go (E := env) Try.func17 rfl rfl rfl (Nat.le_of_ble_eq_true rfl) (Nat.le_of_ble_eq_true rfl) ?_; rintro ⟨w0, T0, L0, n, r0, hn0, hT0⟩ hn hT hU; obtain rfl : n = _ := hn
  have hkn := knownCnt_c
  have hst := startR_c sCounter
  rw [show startS sCounter = (counterV, true) by unfold startS; simp only [ByteArray.toList_eq]; rfl] at hst
  cases h60 : decide ((l.length : Int) > 60)
  rotate_left
  · (repeat' (first | refine CQ.seq ?_ | refine CQ.block ?_ | ((first | apply CQ.rT hU | apply CQ.rD hU); (· (repeat (first | exact RunL.nil | (apply RunL.op; (first | ((first | apply sv | (apply gv; (· rfl); (· rfl)) | (apply gvB; (· rfl); (· rfl); (· assumption))); (first | exact .callP rfl rfl ta (hkn) | exact (lnG (G := GF) rfl rfl rfl) | exact vv)) | exact gn rfl rfl rfl | exact gnU rfl rfl | exact gnB rfl rfl (by assumption) rfl | exact so oo | exact gR rfl rfl oo | exact so rr | exact gR rfl rfl rr | exact gRB rfl rfl (by assumption) oo | exact gRB rfl rfl (by assumption) rr))))); (· kernel_rfl); clear hU; intro hU) | refine CQ.condT rfl ?_ | refine CQ.condF rfl ?_ | refine CQ.condT (hbl ‹_›) ?_ | refine CQ.condF (hbl ‹_›) ?_ | refine CQ.ret ?_ | refine CQ.skip ?_ | refine CQ.exit ?_ | (apply CQ.cond rfl <;> intro hb)))
    (repeat' (first | (apply retC; (first | (apply RetA.tmp; (repeat' (first | exact rfl | exact wE rfl rfl | exact wNV rfl | exact wLV rfl | exact wMs rfl rfl rfl rfl rfl | exact wCv rfl rfl | exact wCv' rfl rfl | exact wNil rfl rfl | exact wF rfl (LeC.fl _) | exact wF rfl (LeC.refl _) | apply wV5 rfl | apply wCv rfl | apply wCv' rfl | apply wE rfl | apply wMs rfl rfl rfl rfl | refine wMs rfl rfl ?_ rfl ?_))) | (apply RetA.cellS rfl rfl rfl rfl rfl; (repeat' (first | exact rfl | exact wE rfl rfl | exact wNV rfl | exact wLV rfl | exact wMs rfl rfl rfl rfl rfl | exact wCv rfl rfl | exact wCv' rfl rfl | exact wNil rfl rfl | exact wF rfl (LeC.fl _) | exact wF rfl (LeC.refl _) | apply wV5 rfl | apply wCv rfl | apply wCv' rfl | apply wE rfl | apply wMs rfl rfl rfl rfl | refine wMs rfl rfl ?_ rfl ?_))) | (apply RetA.cellW rfl rfl rfl rfl rfl; (repeat' (first | exact rfl | exact wE rfl rfl | exact wNV rfl | exact wLV rfl | exact wMs rfl rfl rfl rfl rfl | exact wCv rfl rfl | exact wCv' rfl rfl | exact wNil rfl rfl | exact wF rfl (LeC.fl _) | exact wF rfl (LeC.refl _) | apply wV5 rfl | apply wCv rfl | apply wCv' rfl | apply wE rfl | apply wMs rfl rfl rfl rfl | refine wMs rfl rfl ?_ rfl ?_))))) | exact retN))
  have hl60 : l.length ≤ 60 := by simp at h60; omega
  (repeat' (first | refine CQ.seq ?_ | refine CQ.block ?_ | ((first | apply CQ.rT hU | apply CQ.rD hU); (· (repeat (first | exact RunL.nil | (apply RunL.op; (first | ((first | apply sv | (apply gv; (· rfl); (· rfl)) | (apply gvB; (· rfl); (· rfl); (· assumption))); (first | exact .callP rfl rfl ta (hkn) | exact (lnG (G := GF) rfl rfl rfl) | exact .callP rfl rfl ta (hst) | exact vv)) | exact gn rfl rfl rfl | exact gnU rfl rfl | exact gnB rfl rfl (by assumption) rfl | exact so oo | exact gR rfl rfl oo | exact so rr | exact gR rfl rfl rr | exact gRB rfl rfl (by assumption) oo | exact gRB rfl rfl (by assumption) rr))))); (· kernel_rfl); clear hU; intro hU) | refine CQ.condT rfl ?_ | refine CQ.condF rfl ?_ | refine CQ.condT (hbl ‹_›) ?_ | refine CQ.condF (hbl ‹_›) ?_ | refine CQ.ret ?_ | refine CQ.skip ?_ | refine CQ.exit ?_ | (apply CQ.cond rfl <;> intro hb)))
  refine CQ.loop hT (fun k : Nat => ⟨mkT [(0, .c (.sl 1 (l.map GF.g))), (3, .loc 3 0), (5, .c (.fl (sumTo l k))), (6, .c (.v (.int .i64 k)))], mkM [(3, .box (cntV k (bitsF (sumTo l k))).ca)]⟩) (fun k => k ≤ l.length) (fun k => l.length - k) 0 (Nat.zero_le _) ?_ ?_
  · rw [show bitsF (sumTo l 0) = 0 by show bitsF 0 = 0; kernel_rfl]
    (refine wkS ?_ ?_; (all_goals (repeat' (first | exact wkB | refine wkP ?_ ?_ | exact wkMB | refine wkMP rfl ?_ ?_ | exact wkOr rfl | exact wkB0 | refine wkBx ?_ ?_ | refine wkOa ?_ | exact wr rfl | exact wE rfl rfl | exact wNV rfl | exact wLV rfl | exact wMs rfl rfl rfl rfl rfl | exact wCv rfl rfl | exact wCv' rfl rfl | exact wNil rfl rfl | exact wF rfl (LeC.fl _) | apply wV5 rfl | apply wCv rfl | apply wCv' rfl | apply wE rfl | apply wMs rfl rfl rfl rfl | refine wMs rfl rfl ?_ rfl ?_))))
  clear hU
  rintro k hk
  have hU : Fresh [3] ⟨mkT [(0, .c (.sl 1 (l.map GF.g))), (3, .loc 3 0), (5, .c (.fl (sumTo l k))), (6, .c (.v (.int .i64 k)))], mkM [(3, .box (cntV k (bitsF (sumTo l k))).ca)]⟩ := by exact fr
  cases hb : decide ((k : Int) < (l.length : Int))
  · have hkl : k = l.length := by simp at hb; omega
    have h1 := cntDo_c (cntV k (bitsF (sumTo l k))) sTotal []
    rw [cntS_cntV _ (by omega), check_cnt0.2.1, if_neg (by decide), cnt1_total, bitsF_idem] at h1
    have h2 := cntDo_c (cntV k (bitsF (sumTo l k))) sCount []
    rw [cntS_cntV _ (by omega), check_cnt0.1, if_neg (by decide), cnt1_count, bitsF_idem] at h2
    have h3 := float_c (sumTo l k)
    have h4 := same_c (fltV (bitsF (sumTo l k))) (fltV (bitsF (sumTo l k)))
    rw [sameS_refl] at h4
    have e1 : ((k : Int) == (l.length : Int)) = true := by rw [hkl]; simp
    (repeat' (first | refine CQ.seq ?_ | refine CQ.block ?_ | ((first | apply CQ.rT hU | apply CQ.rD hU); (· (repeat (first | exact RunL.nil | (apply RunL.op; (first | ((first | apply sv | (apply gv; (· rfl); (· rfl)) | (apply gvB; (· rfl); (· rfl); (· assumption))); (first | exact (lnG (G := GF) rfl rfl rfl) | exact .callP rfl rfl ta (h1) | exact .callP rfl rfl ta (h2) | exact .callP rfl rfl ta (h3) | exact .callP rfl rfl ta (h4) | exact vv)) | exact gn rfl rfl rfl | exact gnU rfl rfl | exact gnB rfl rfl (by assumption) rfl | exact so oo | exact gR rfl rfl oo | exact so rr | exact gR rfl rfl rr | exact gRB rfl rfl (by assumption) oo | exact gRB rfl rfl (by assumption) rr))))); (· kernel_rfl); clear hU; intro hU) | refine CQ.condT rfl ?_ | refine CQ.condF rfl ?_ | refine CQ.condT (hbl ‹_›) ?_ | refine CQ.condF (hbl ‹_›) ?_ | refine CQ.ret ?_ | refine CQ.skip ?_ | refine CQ.exit ?_ | (apply CQ.cond rfl <;> intro hb)))
    (repeat' (first | (apply retC; (first | (apply RetA.tmp; (repeat' (first | exact rfl | exact wE rfl rfl | exact wNV rfl | exact wLV rfl | exact wMs rfl rfl rfl rfl rfl | exact wCv rfl rfl | exact wCv' rfl rfl | exact wNil rfl rfl | exact wF rfl (LeC.fl _) | exact wF rfl (LeC.refl _) | apply wV5 rfl | apply wCv rfl | apply wCv' rfl | apply wE rfl | apply wMs rfl rfl rfl rfl | refine wMs rfl rfl ?_ rfl ?_))) | (apply RetA.cellS rfl rfl rfl rfl rfl; (repeat' (first | exact rfl | exact wE rfl rfl | exact wNV rfl | exact wLV rfl | exact wMs rfl rfl rfl rfl rfl | exact wCv rfl rfl | exact wCv' rfl rfl | exact wNil rfl rfl | exact wF rfl (LeC.fl _) | exact wF rfl (LeC.refl _) | apply wV5 rfl | apply wCv rfl | apply wCv' rfl | apply wE rfl | apply wMs rfl rfl rfl rfl | refine wMs rfl rfl ?_ rfl ?_))) | (apply RetA.cellW rfl rfl rfl rfl rfl; (repeat' (first | exact rfl | exact wE rfl rfl | exact wNV rfl | exact wLV rfl | exact wMs rfl rfl rfl rfl rfl | exact wCv rfl rfl | exact wCv' rfl rfl | exact wNil rfl rfl | exact wF rfl (LeC.fl _) | exact wF rfl (LeC.refl _) | apply wV5 rfl | apply wCv rfl | apply wCv' rfl | apply wE rfl | apply wMs rfl rfl rfl rfl | refine wMs rfl rfl ?_ rfl ?_))))) | exact retN))
    all_goals exact congrArg (fun b => CV.v (.bool b)) e1
  · have hk' : k < l.length := by simpa using hb
    have hg := gy (G := GF) (List.getElem?_eq_getElem hk')
    have hs := sumTo_succ hk'
    generalize l[k] = x at hg hs
    have h1 := float_c x
    have h2 := cntDo_c (cntV k (bitsF (sumTo l k))) sAdd [fltV (bitsF x)]
    rw [cnt_sum _ _ (by omega)] at h2
    have h3 := float_c (addF (sumTo l k) x)
    have h4 := same_c (fltV (bitsF (addF (sumTo l k) x))) (fltV (bitsF (addF (sumTo l k) x)))
    rw [sameS_refl] at h4
    (repeat' (first | refine CQ.seq ?_ | refine CQ.block ?_ | ((first | apply CQ.rT hU | apply CQ.rD hU); (· (repeat (first | exact RunL.nil | (apply RunL.op; (first | ((first | apply sv | (apply gv; (· rfl); (· rfl)) | (apply gvB; (· rfl); (· rfl); (· assumption))); (first | exact (lnG (G := GF) rfl rfl rfl) | exact (.idxC rfl rfl (by omega) (by exact hg) rfl rfl rfl rfl) | exact (.binFA rfl rfl rfl rfl) | exact .callP rfl rfl ta (h1) | exact .callP rfl rfl ta (h2) | exact .callP rfl rfl ta (h3) | exact .callP rfl rfl ta (h4) | exact vv)) | exact gn rfl rfl rfl | exact gnU rfl rfl | exact gnB rfl rfl (by assumption) rfl | exact so oo | exact gR rfl rfl oo | exact so rr | exact gR rfl rfl rr | exact gRB rfl rfl (by assumption) oo | exact gRB rfl rfl (by assumption) rr))))); (· kernel_rfl); clear hU; intro hU) | refine CQ.condT rfl ?_ | refine CQ.condF rfl ?_ | refine CQ.condT (hbl ‹_›) ?_ | refine CQ.condF (hbl ‹_›) ?_ | refine CQ.ret ?_ | refine CQ.skip ?_ | refine CQ.exit ?_ | (apply CQ.cond rfl <;> intro hb)))
    refine ⟨k + 1, by omega, by omega, ?_⟩
    rw [hs]
    (refine wkS ?_ ?_; (all_goals (repeat' (first | exact wkB | refine wkP ?_ ?_ | exact wkMB | refine wkMP rfl ?_ ?_ | exact wkOr rfl | exact wkB0 | refine wkBx ?_ ?_ | refine wkOa ?_ | exact wr rfl | exact wE rfl rfl | exact wNV rfl | exact wLV rfl | exact wMs rfl rfl rfl rfl rfl | exact wCv rfl rfl | exact wCv' rfl rfl | exact wNil rfl rfl | exact wF rfl (LeC.fl _) | apply wV5 rfl | apply wCv rfl | apply wCv' rfl | apply wE rfl | apply wMs rfl rfl rfl rfl | refine wMs rfl rfl ?_ rfl ?_))))
    · rw [wrapS hk' hlen]

theorem counterEdges_c (n : Int) (hn : -9223372036854775808 ≤ n ∧ n ≤ 9223372036854775807) (f g : Nat) : Pure env.P 18 [.v (.int .i64 n), .fl f, .fl g] [.v (.bool true)] := by
  refine Pure.go (E := env) Try.func18 rfl rfl rfl (Nat.le_of_ble_eq_true rfl) (Nat.le_of_ble_eq_true rfl) ?_; rintro ⟨w0, T0, L0, n, r0, hn0, hT0⟩ hn hT hU; obtain rfl : n = _ := hn
  have hkn := knownCnt_c
  cases hneg : decide (n < 0)
  · have hN : 0 ≤ n ∧ n ≤ 9223372036854775807 := by simp at hneg; omega
    have hf := float_c f
    have hg := float_c g
    have hi := int_c n
    have hl := list_c [intV' n, fltV (bitsF f)]
    have ha := cntDo_c (cntV n (bitsF f)) sAdd [fltV (bitsF g)]
    rw [cntS_cntV _ hN.1, check_add, if_neg (by decide), cnt1_add, bitsF_idem, show [fltV (bitsF g)].getD 0 nilV = fltV (bitsF g) from rfl] at ha
    have hr := cntDo_c (cntV n (bitsF f)) sReset []
    rw [cntS_cntV _ hN.1, check_cnt0.2.2, if_neg (by decide), cnt1_reset, bitsF_idem] at hr
    have s1 := same_c (fltV (bitsF f)) (fltV (bitsF f))
    have s2 := same_c counterV counterV
    have s3 := same_c nilV nilV
    have s4 := same_c (fltV (bitsF (addF (bitsF f) (bitsF g)))) (fltV (bitsF (addF (bitsF f) (bitsF g))))
    rw [sameS_refl] at s1 s2 s3 s4
    have hl0 := list_c [intV' 0, fltV 0]
    have hc1 := canon1_c f
    have hc2 := canon1_c g
    have hs := float_c (addF (bitsF f) (bitsF g))
    unfold addS at ha
    have e1 : (IntKind.i64.wrap (n + 1) != IntKind.i64.wrap (n + 1)) = false := by simp
    cases hm : (n == 9223372036854775807)
    all_goals rw [hm] at ha
    all_goals (repeat' (first | refine CQ.seq ?_ | refine CQ.block ?_ | ((first | apply CQ.rT hU | apply CQ.rD hU); (· (repeat (first | exact RunL.nil | (apply RunL.op; (first | ((first | apply sv | (apply gv; (· rfl); (· rfl)) | (apply gvB; (· rfl); (· rfl); (· assumption))); (first | exact .callP rfl rfl ta (hkn) | exact .callP rfl rfl ta (hf) | exact .callP rfl rfl ta (hg) | exact .callP rfl rfl ta (hi) | exact .callP rfl rfl ta (hl) | exact .callP rfl rfl ta (ha) | exact .callP rfl rfl ta (hr) | exact .callP rfl rfl ta (s1) | exact .callP rfl rfl ta (s2) | exact .callP rfl rfl ta (s3) | exact .callP rfl rfl ta (s4) | exact .callP rfl rfl ta ((int_c 0)) | exact .callP rfl rfl ta (float0_c) | exact .callP rfl rfl ta (hl0) | exact .callP rfl rfl ta (hc1) | exact .callP rfl rfl ta (hc2) | exact .callP rfl rfl ta (hs) | exact (.binFA rfl rfl rfl rfl) | exact (ixV (l := [intV' (IntKind.i64.wrap (n + 1)), fltV (bitsF (addF (bitsF f) (bitsF g)))]) (y := intV' (IntKind.i64.wrap (n + 1))) rfl rfl (by decide) rfl rfl rfl rfl rfl) | exact vv)) | exact gn rfl rfl rfl | exact gnU rfl rfl | exact gnB rfl rfl (by assumption) rfl | exact so oo | exact gR rfl rfl oo | exact so rr | exact gR rfl rfl rr | exact gRB rfl rfl (by assumption) oo | exact gRB rfl rfl (by assumption) rr))))); (· kernel_rfl); clear hU; intro hU) | refine CQ.condT rfl ?_ | refine CQ.condF rfl ?_ | refine CQ.condT (hbl ‹_›) ?_ | refine CQ.condF (hbl ‹_›) ?_ | refine CQ.ret ?_ | refine CQ.skip ?_ | refine CQ.exit ?_ | (apply CQ.cond rfl <;> intro hb)))
    all_goals (repeat' (first | (apply retC; (first | (apply RetA.tmp; (repeat' (first | exact rfl | exact wE rfl rfl | exact wNV rfl | exact wLV rfl | exact wMs rfl rfl rfl rfl rfl | exact wCv rfl rfl | exact wCv' rfl rfl | exact wNil rfl rfl | exact wF rfl (LeC.fl _) | exact wF rfl (LeC.refl _) | apply wV5 rfl | apply wCv rfl | apply wCv' rfl | apply wE rfl | apply wMs rfl rfl rfl rfl | refine wMs rfl rfl ?_ rfl ?_))) | (apply RetA.cellS rfl rfl rfl rfl rfl; (repeat' (first | exact rfl | exact wE rfl rfl | exact wNV rfl | exact wLV rfl | exact wMs rfl rfl rfl rfl rfl | exact wCv rfl rfl | exact wCv' rfl rfl | exact wNil rfl rfl | exact wF rfl (LeC.fl _) | exact wF rfl (LeC.refl _) | apply wV5 rfl | apply wCv rfl | apply wCv' rfl | apply wE rfl | apply wMs rfl rfl rfl rfl | refine wMs rfl rfl ?_ rfl ?_))) | (apply RetA.cellW rfl rfl rfl rfl rfl; (repeat' (first | exact rfl | exact wE rfl rfl | exact wNV rfl | exact wLV rfl | exact wMs rfl rfl rfl rfl rfl | exact wCv rfl rfl | exact wCv' rfl rfl | exact wNil rfl rfl | exact wF rfl (LeC.fl _) | exact wF rfl (LeC.refl _) | apply wV5 rfl | apply wCv rfl | apply wCv' rfl | apply wE rfl | apply wMs rfl rfl rfl rfl | refine wMs rfl rfl ?_ rfl ?_))))) | exact retN))
  · have hN : 0 ≤ IntKind.i64.wrap (0 - IntKind.i64.wrap (n + 1)) ∧ IntKind.i64.wrap (0 - IntKind.i64.wrap (n + 1)) ≤ 9223372036854775807 := by
      simp at hneg
      rw [wrap_id (n := n + 1) (by omega) (by omega), wrap_id (by omega) (by omega)]; omega
    have hf := float_c f
    have hg := float_c g
    have hi := int_c (IntKind.i64.wrap (0 - IntKind.i64.wrap (n + 1)))
    have hl := list_c [intV' (IntKind.i64.wrap (0 - IntKind.i64.wrap (n + 1))), fltV (bitsF f)]
    have ha := cntDo_c (cntV (IntKind.i64.wrap (0 - IntKind.i64.wrap (n + 1))) (bitsF f)) sAdd [fltV (bitsF g)]
    rw [cntS_cntV _ hN.1, check_add, if_neg (by decide), cnt1_add, bitsF_idem, show [fltV (bitsF g)].getD 0 nilV = fltV (bitsF g) from rfl] at ha
    have hr := cntDo_c (cntV (IntKind.i64.wrap (0 - IntKind.i64.wrap (n + 1))) (bitsF f)) sReset []
    rw [cntS_cntV _ hN.1, check_cnt0.2.2, if_neg (by decide), cnt1_reset, bitsF_idem] at hr
    have s1 := same_c (fltV (bitsF f)) (fltV (bitsF f))
    have s2 := same_c counterV counterV
    have s3 := same_c nilV nilV
    have s4 := same_c (fltV (bitsF (addF (bitsF f) (bitsF g)))) (fltV (bitsF (addF (bitsF f) (bitsF g))))
    rw [sameS_refl] at s1 s2 s3 s4
    have hl0 := list_c [intV' 0, fltV 0]
    have hc1 := canon1_c f
    have hc2 := canon1_c g
    have hs := float_c (addF (bitsF f) (bitsF g))
    unfold addS at ha
    have e1 : (IntKind.i64.wrap ((IntKind.i64.wrap (0 - IntKind.i64.wrap (n + 1))) + 1) != IntKind.i64.wrap ((IntKind.i64.wrap (0 - IntKind.i64.wrap (n + 1))) + 1)) = false := by simp
    cases hm : ((IntKind.i64.wrap (0 - IntKind.i64.wrap (n + 1))) == 9223372036854775807)
    all_goals rw [hm] at ha
    all_goals (repeat' (first | refine CQ.seq ?_ | refine CQ.block ?_ | ((first | apply CQ.rT hU | apply CQ.rD hU); (· (repeat (first | exact RunL.nil | (apply RunL.op; (first | ((first | apply sv | (apply gv; (· rfl); (· rfl)) | (apply gvB; (· rfl); (· rfl); (· assumption))); (first | exact .callP rfl rfl ta (hkn) | exact .callP rfl rfl ta (hf) | exact .callP rfl rfl ta (hg) | exact .callP rfl rfl ta (hi) | exact .callP rfl rfl ta (hl) | exact .callP rfl rfl ta (ha) | exact .callP rfl rfl ta (hr) | exact .callP rfl rfl ta (s1) | exact .callP rfl rfl ta (s2) | exact .callP rfl rfl ta (s3) | exact .callP rfl rfl ta (s4) | exact .callP rfl rfl ta ((int_c 0)) | exact .callP rfl rfl ta (float0_c) | exact .callP rfl rfl ta (hl0) | exact .callP rfl rfl ta (hc1) | exact .callP rfl rfl ta (hc2) | exact .callP rfl rfl ta (hs) | exact (.binFA rfl rfl rfl rfl) | exact (ixV (l := [intV' (IntKind.i64.wrap ((IntKind.i64.wrap (0 - IntKind.i64.wrap (n + 1))) + 1)), fltV (bitsF (addF (bitsF f) (bitsF g)))]) (y := intV' (IntKind.i64.wrap ((IntKind.i64.wrap (0 - IntKind.i64.wrap (n + 1))) + 1))) rfl rfl (by decide) rfl rfl rfl rfl rfl) | exact vv)) | exact gn rfl rfl rfl | exact gnU rfl rfl | exact gnB rfl rfl (by assumption) rfl | exact so oo | exact gR rfl rfl oo | exact so rr | exact gR rfl rfl rr | exact gRB rfl rfl (by assumption) oo | exact gRB rfl rfl (by assumption) rr))))); (· kernel_rfl); clear hU; intro hU) | refine CQ.condT rfl ?_ | refine CQ.condF rfl ?_ | refine CQ.condT (hbl ‹_›) ?_ | refine CQ.condF (hbl ‹_›) ?_ | refine CQ.ret ?_ | refine CQ.skip ?_ | refine CQ.exit ?_ | (apply CQ.cond rfl <;> intro hb)))
    all_goals (repeat' (first | (apply retC; (first | (apply RetA.tmp; (repeat' (first | exact rfl | exact wE rfl rfl | exact wNV rfl | exact wLV rfl | exact wMs rfl rfl rfl rfl rfl | exact wCv rfl rfl | exact wCv' rfl rfl | exact wNil rfl rfl | exact wF rfl (LeC.fl _) | exact wF rfl (LeC.refl _) | apply wV5 rfl | apply wCv rfl | apply wCv' rfl | apply wE rfl | apply wMs rfl rfl rfl rfl | refine wMs rfl rfl ?_ rfl ?_))) | (apply RetA.cellS rfl rfl rfl rfl rfl; (repeat' (first | exact rfl | exact wE rfl rfl | exact wNV rfl | exact wLV rfl | exact wMs rfl rfl rfl rfl rfl | exact wCv rfl rfl | exact wCv' rfl rfl | exact wNil rfl rfl | exact wF rfl (LeC.fl _) | exact wF rfl (LeC.refl _) | apply wV5 rfl | apply wCv rfl | apply wCv' rfl | apply wE rfl | apply wMs rfl rfl rfl rfl | refine wMs rfl rfl ?_ rfl ?_))) | (apply RetA.cellW rfl rfl rfl rfl rfl; (repeat' (first | exact rfl | exact wE rfl rfl | exact wNV rfl | exact wLV rfl | exact wMs rfl rfl rfl rfl rfl | exact wCv rfl rfl | exact wCv' rfl rfl | exact wNil rfl rfl | exact wF rfl (LeC.fl _) | exact wF rfl (LeC.refl _) | apply wV5 rfl | apply wCv rfl | apply wCv' rfl | apply wE rfl | apply wMs rfl rfl rfl rfl | refine wMs rfl rfl ?_ rfl ?_))))) | exact retN))
end Go.Proofs.Ytbjcckjhfjhicaa
