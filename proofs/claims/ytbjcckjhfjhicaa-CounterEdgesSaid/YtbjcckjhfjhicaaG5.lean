/- Walks: the counter's methods, the reference's. -/
import Derived.Test.YtbjcckjhfjhicaaG4
namespace Go.Proofs.Ytbjcckjhfjhicaa
open Go Go.AM
set_option linter.unusedVariables false
set_option maxHeartbeats 4000000
set_option maxRecDepth 100000
set_option linter.unusedSimpArgs false

def sAdd : ByteArray := ⟨#[97, 100, 100]⟩
def sCount : ByteArray := ⟨#[99, 111, 117, 110, 116]⟩
def sReset : ByteArray := ⟨#[114, 101, 115, 101, 116]⟩
def sTotal : ByteArray := ⟨#[116, 111, 116, 97, 108]⟩
theorem methR_cnt : methR sCounter = methRCounter := by unfold methR; simp only [ByteArray.toList_eq]; rfl
theorem one_of {l : List V} (h : l.length = 1) : ∃ x, l = [x] := List.length_eq_one_iff.1 h
theorem cntSig {m : ByteArray} {l : List V} (h : checkR sCounter m l = 0) : (∀ x ∈ l, checkS x = 0) ∧ ((m = sAdd ∧ ∃ x, l = [x] ∧ numberS x = true) ∨ (m = sCount ∧ l = []) ∨ (m = sReset ∧ l = []) ∨ (m = sTotal ∧ l = [])) := by
  obtain ⟨r, hf, hc, hs⟩ := check_of _ _ _ h
  refine ⟨hc, ?_⟩
  rw [methR_cnt] at hf
  have hm := List.mem_of_find?_eq_some hf
  have hn := List.find?_some hf
  have hn := str_eq hn
  simp only [methRCounter, List.mem_cons, List.not_mem_nil, or_false] at hm
  rcases hm with rfl | rfl | rfl | rfl
  · refine .inl ⟨hn.symm, ?_⟩
    rcases hs with ⟨h1, _⟩ | ⟨_, h2, h3⟩
    · cases h1
    · obtain ⟨x, rfl⟩ := one_of h2.symm
      refine ⟨x, rfl, ?_⟩
      have h3 : (rightR 35 x && true) = true := h3
      rw [Bool.and_true] at h3; exact h3
  · refine .inr (.inl ⟨hn.symm, ?_⟩)
    rcases hs with ⟨h1, _⟩ | ⟨_, h2, _⟩
    · cases h1
    · exact List.eq_nil_of_length_eq_zero h2.symm
  · refine .inr (.inr (.inl ⟨hn.symm, ?_⟩))
    rcases hs with ⟨h1, _⟩ | ⟨_, h2, _⟩
    · cases h1
    · exact List.eq_nil_of_length_eq_zero h2.symm
  · refine .inr (.inr (.inr ⟨hn.symm, ?_⟩))
    rcases hs with ⟨h1, _⟩ | ⟨_, h2, _⟩
    · cases h1
    · exact List.eq_nil_of_length_eq_zero h2.symm
/-- What a counter makes of a call. -/
def cnt1S (i : Int) (f : Nat) (m : ByteArray) (l : List V) : V × V × Int :=
  if m.toList == sAdd.toList then addS i f (l.getD 0 nilV) else
  if m.toList == sCount.toList then (cntV i f, intV' i, 0) else
  if m.toList == sReset.toList then (counterV, fltV f, 0) else (cntV i f, fltV f, 0)
def cntI (s : V) : Int := (s.l.getD 0 nilV).i
def cntF (s : V) : Nat := bitsF (s.l.getD 1 nilV).f
def cntS (s : V) (m : ByteArray) (l : List V) : V × V × Int :=
  if !cntOk s then (nilV, nilV, 31) else
  if checkR sCounter m l != 0 then (nilV, nilV, checkR sCounter m l) else cnt1S (cntI s) (cntF s) m l
theorem cntDo_c (s : V) (m : ByteArray) (l : List V) : Pure env.P 59 [s.cv, .v (.string m), .sl 5 (l.map V.cv)] [(cntS s m l).1.cv, (cntS s m l).2.1.cv, .v (.int .i64 (cntS s m l).2.2)] := by
  refine Pure.go (E := env) Try.func59 rfl rfl rfl (Nat.le_of_ble_eq_true rfl) (Nat.le_of_ble_eq_true rfl) ?_; rintro ⟨w0, T0, L0, n, r0, hn0, hT0⟩ hn hT hU; obtain rfl : n = _ := hn
  have hr := rightCnt_c s
  have hc := checkA_c sCounter m l
  rw [checkA_eq] at hc
  unfold cntS
  cases h0 : !cntOk s
  rotate_left
  · simp only [Bool.not_eq_true'] at h0
    rw [h0] at hr
    (repeat' (first | refine CQ.seq ?_ | refine CQ.block ?_ | ((first | apply CQ.rT hU | apply CQ.rD hU); (· (repeat (first | exact RunL.nil | (apply RunL.op; (first | ((first | apply sv | (apply gv; (· rfl); (· rfl)) | (apply gvB; (· rfl); (· rfl); (· assumption))); (first | exact .callP rfl rfl ta (hr) | exact vv)) | exact gn rfl rfl rfl | exact gnU rfl rfl | exact gnB rfl rfl (by assumption) rfl | exact so oo | exact gR rfl rfl oo | exact so rr | exact gR rfl rfl rr | exact gRB rfl rfl (by assumption) oo | exact gRB rfl rfl (by assumption) rr))))); (· kernel_rfl); clear hU; intro hU) | refine CQ.condT rfl ?_ | refine CQ.condF rfl ?_ | refine CQ.condT (hbl ‹_›) ?_ | refine CQ.condF (hbl ‹_›) ?_ | refine CQ.ret ?_ | refine CQ.skip ?_ | refine CQ.exit ?_ | (apply CQ.cond rfl <;> intro hb)))
    (repeat' (first | (apply retC; (first | (apply RetA.tmp; (repeat' (first | exact rfl | exact wE rfl rfl | exact wNV rfl | exact wLV rfl | exact wMs rfl rfl rfl rfl rfl | exact wCv rfl rfl | exact wCv' rfl rfl | exact wNil rfl rfl | exact wF rfl (LeC.fl _) | exact wF rfl (LeC.refl _) | apply wV5 rfl | apply wCv rfl | apply wCv' rfl | apply wE rfl | apply wMs rfl rfl rfl rfl | refine wMs rfl rfl ?_ rfl ?_))) | (apply RetA.cellS rfl rfl rfl rfl rfl; (repeat' (first | exact rfl | exact wE rfl rfl | exact wNV rfl | exact wLV rfl | exact wMs rfl rfl rfl rfl rfl | exact wCv rfl rfl | exact wCv' rfl rfl | exact wNil rfl rfl | exact wF rfl (LeC.fl _) | exact wF rfl (LeC.refl _) | apply wV5 rfl | apply wCv rfl | apply wCv' rfl | apply wE rfl | apply wMs rfl rfl rfl rfl | refine wMs rfl rfl ?_ rfl ?_))) | (apply RetA.cellW rfl rfl rfl rfl rfl; (repeat' (first | exact rfl | exact wE rfl rfl | exact wNV rfl | exact wLV rfl | exact wMs rfl rfl rfl rfl rfl | exact wCv rfl rfl | exact wCv' rfl rfl | exact wNil rfl rfl | exact wF rfl (LeC.fl _) | exact wF rfl (LeC.refl _) | apply wV5 rfl | apply wCv rfl | apply wCv' rfl | apply wE rfl | apply wMs rfl rfl rfl rfl | refine wMs rfl rfl ?_ rfl ?_))))) | exact retN))
  simp only [Bool.not_eq_false'] at h0
  rw [h0] at hr
  cases h1 : (checkR sCounter m l != 0)
  rotate_left
  · (repeat' (first | refine CQ.seq ?_ | refine CQ.block ?_ | ((first | apply CQ.rT hU | apply CQ.rD hU); (· (repeat (first | exact RunL.nil | (apply RunL.op; (first | ((first | apply sv | (apply gv; (· rfl); (· rfl)) | (apply gvB; (· rfl); (· rfl); (· assumption))); (first | exact .callP rfl rfl ta (hr) | exact .callP rfl rfl ta (hc) | exact vv)) | exact gn rfl rfl rfl | exact gnU rfl rfl | exact gnB rfl rfl (by assumption) rfl | exact so oo | exact gR rfl rfl oo | exact so rr | exact gR rfl rfl rr | exact gRB rfl rfl (by assumption) oo | exact gRB rfl rfl (by assumption) rr))))); (· kernel_rfl); clear hU; intro hU) | refine CQ.condT rfl ?_ | refine CQ.condF rfl ?_ | refine CQ.condT (hbl ‹_›) ?_ | refine CQ.condF (hbl ‹_›) ?_ | refine CQ.ret ?_ | refine CQ.skip ?_ | refine CQ.exit ?_ | (apply CQ.cond rfl <;> intro hb)))
    (repeat' (first | (apply retC; (first | (apply RetA.tmp; (repeat' (first | exact rfl | exact wE rfl rfl | exact wNV rfl | exact wLV rfl | exact wMs rfl rfl rfl rfl rfl | exact wCv rfl rfl | exact wCv' rfl rfl | exact wNil rfl rfl | exact wF rfl (LeC.fl _) | exact wF rfl (LeC.refl _) | apply wV5 rfl | apply wCv rfl | apply wCv' rfl | apply wE rfl | apply wMs rfl rfl rfl rfl | refine wMs rfl rfl ?_ rfl ?_))) | (apply RetA.cellS rfl rfl rfl rfl rfl; (repeat' (first | exact rfl | exact wE rfl rfl | exact wNV rfl | exact wLV rfl | exact wMs rfl rfl rfl rfl rfl | exact wCv rfl rfl | exact wCv' rfl rfl | exact wNil rfl rfl | exact wF rfl (LeC.fl _) | exact wF rfl (LeC.refl _) | apply wV5 rfl | apply wCv rfl | apply wCv' rfl | apply wE rfl | apply wMs rfl rfl rfl rfl | refine wMs rfl rfl ?_ rfl ?_))) | (apply RetA.cellW rfl rfl rfl rfl rfl; (repeat' (first | exact rfl | exact wE rfl rfl | exact wNV rfl | exact wLV rfl | exact wMs rfl rfl rfl rfl rfl | exact wCv rfl rfl | exact wCv' rfl rfl | exact wNil rfl rfl | exact wF rfl (LeC.fl _) | exact wF rfl (LeC.refl _) | apply wV5 rfl | apply wCv rfl | apply wCv' rfl | apply wE rfl | apply wMs rfl rfl rfl rfl | refine wMs rfl rfl ?_ rfl ?_))))) | exact retN))
  obtain ⟨hck, hsig⟩ := cntSig (m := m) (l := l) (by simpa using h1)
  obtain ⟨k1, k2, k3, k4, k5⟩ := cnt_of h0
  obtain ⟨hcl, hcv⟩ := clean_cnt h0
  have hsm := small_cnt h0
  have hcs := clean_c s hsm
  rw [hcv] at hcs
  have hco := cleanO 25 s hsm k1
  rw [hcl, show s.l.length = 2 by rw [k2]; rfl] at hco
  unfold cnt1S
  rw [show (s.l.getD 0 nilV).i = cntI s from rfl, show bitsF (s.l.getD 1 nilV).f = cntF s from rfl] at hcs hco
  generalize cntI s = i at hcs hco
  generalize cntF s = f at hcs hco
  have fa : ∀ n : ByteArray, n = sAdd ∨ n = sCount ∨ n = sReset ∨ n = sTotal → True := fun _ _ => trivial
  rcases hsig with ⟨rfl, x, rfl, hx⟩ | ⟨rfl, rfl⟩ | ⟨rfl, rfl⟩ | ⟨rfl, rfl⟩
  · have t1 : (sAdd.toList == sAdd.toList) = true := by simp only [ByteArray.toList_eq]; rfl
    have ha := addO 25 i f x hx
    rw [t1]
    (repeat' (first | refine CQ.seq ?_ | refine CQ.block ?_ | ((first | apply CQ.rT hU | apply CQ.rD hU); (· (repeat (first | exact RunL.nil | (apply RunL.op; (first | ((first | apply sv | (apply gv; (· rfl); (· rfl)) | (apply gvB; (· rfl); (· rfl); (· assumption))); (first | exact .callP rfl rfl ta (hr) | exact .callP rfl rfl ta (hc) | exact (ixMV rfl rfl rfl rfl (by decide) (by decide) rfl rfl rfl rfl) | exact (ldEVA rfl rfl rfl rfl rfl rfl rfl) | exact (ixV (y := x) rfl rfl (by decide) rfl rfl rfl rfl rfl) | exact vv)) | exact gn rfl rfl rfl | exact gnU rfl rfl | exact gnB rfl rfl (by assumption) rfl | exact so ((coN1 rfl hco rfl tas)) | exact gR rfl rfl ((coN1 rfl hco rfl tas)) | exact gRB rfl rfl (by assumption) ((coN1 rfl hco rfl tas)) | exact so ((coC1 rfl ha rfl tas)) | exact gR rfl rfl ((coC1 rfl ha rfl tas)) | exact gRB rfl rfl (by assumption) ((coC1 rfl ha rfl tas)) | exact so oo | exact gR rfl rfl oo | exact so rr | exact gR rfl rfl rr | exact gRB rfl rfl (by assumption) oo | exact gRB rfl rfl (by assumption) rr))))); (· kernel_rfl); clear hU; intro hU) | refine CQ.condT rfl ?_ | refine CQ.condF rfl ?_ | refine CQ.condT (hbl ‹_›) ?_ | refine CQ.condF (hbl ‹_›) ?_ | refine CQ.ret ?_ | refine CQ.skip ?_ | refine CQ.exit ?_ | (apply CQ.cond rfl <;> intro hb)))
    (repeat' (first | (apply retC; (first | (apply RetA.tmp; (repeat' (first | exact rfl | exact wE rfl rfl | exact wNV rfl | exact wLV rfl | exact wMs rfl rfl rfl rfl rfl | exact wCv rfl rfl | exact wCv' rfl rfl | exact wNil rfl rfl | exact wF rfl (LeC.fl _) | exact wF rfl (LeC.refl _) | apply wV5 rfl | apply wCv rfl | apply wCv' rfl | apply wE rfl | apply wMs rfl rfl rfl rfl | refine wMs rfl rfl ?_ rfl ?_))) | (apply RetA.cellS rfl rfl rfl rfl rfl; (repeat' (first | exact rfl | exact wE rfl rfl | exact wNV rfl | exact wLV rfl | exact wMs rfl rfl rfl rfl rfl | exact wCv rfl rfl | exact wCv' rfl rfl | exact wNil rfl rfl | exact wF rfl (LeC.fl _) | exact wF rfl (LeC.refl _) | apply wV5 rfl | apply wCv rfl | apply wCv' rfl | apply wE rfl | apply wMs rfl rfl rfl rfl | refine wMs rfl rfl ?_ rfl ?_))) | (apply RetA.cellW rfl rfl rfl rfl rfl; (repeat' (first | exact rfl | exact wE rfl rfl | exact wNV rfl | exact wLV rfl | exact wMs rfl rfl rfl rfl rfl | exact wCv rfl rfl | exact wCv' rfl rfl | exact wNil rfl rfl | exact wF rfl (LeC.fl _) | exact wF rfl (LeC.refl _) | apply wV5 rfl | apply wCv rfl | apply wCv' rfl | apply wE rfl | apply wMs rfl rfl rfl rfl | refine wMs rfl rfl ?_ rfl ?_))))) | exact retN))
  · have t1 : (sCount.toList == sAdd.toList) = false := by simp only [ByteArray.toList_eq]; rfl
    have t2 : (sCount.toList == sCount.toList) = true := by simp only [ByteArray.toList_eq]; rfl
    rw [t1, t2]
    (repeat' (first | refine CQ.seq ?_ | refine CQ.block ?_ | ((first | apply CQ.rT hU | apply CQ.rD hU); (· (repeat (first | exact RunL.nil | (apply RunL.op; (first | ((first | apply sv | (apply gv; (· rfl); (· rfl)) | (apply gvB; (· rfl); (· rfl); (· assumption))); (first | exact .callP rfl rfl ta (hr) | exact .callP rfl rfl ta (hc) | exact .callP rfl rfl ta (hcs) | exact (ixV (l := [intV' i, fltV f]) (y := intV' i) rfl rfl (by decide) rfl rfl rfl rfl rfl) | exact (ixV (l := [intV' i, fltV f]) (y := fltV f) rfl rfl (by decide) rfl rfl rfl rfl rfl) | exact vv)) | exact gn rfl rfl rfl | exact gnU rfl rfl | exact gnB rfl rfl (by assumption) rfl | exact so oo | exact gR rfl rfl oo | exact so rr | exact gR rfl rfl rr | exact gRB rfl rfl (by assumption) oo | exact gRB rfl rfl (by assumption) rr))))); (· kernel_rfl); clear hU; intro hU) | refine CQ.condT rfl ?_ | refine CQ.condF rfl ?_ | refine CQ.condT (hbl ‹_›) ?_ | refine CQ.condF (hbl ‹_›) ?_ | refine CQ.ret ?_ | refine CQ.skip ?_ | refine CQ.exit ?_ | (apply CQ.cond rfl <;> intro hb)))
    (repeat' (first | (apply retC; (first | (apply RetA.tmp; (repeat' (first | exact rfl | exact wE rfl rfl | exact wNV rfl | exact wLV rfl | exact wMs rfl rfl rfl rfl rfl | exact wCv rfl rfl | exact wCv' rfl rfl | exact wNil rfl rfl | exact wF rfl (LeC.fl _) | exact wF rfl (LeC.refl _) | apply wV5 rfl | apply wCv rfl | apply wCv' rfl | apply wE rfl | apply wMs rfl rfl rfl rfl | refine wMs rfl rfl ?_ rfl ?_))) | (apply RetA.cellS rfl rfl rfl rfl rfl; (repeat' (first | exact rfl | exact wE rfl rfl | exact wNV rfl | exact wLV rfl | exact wMs rfl rfl rfl rfl rfl | exact wCv rfl rfl | exact wCv' rfl rfl | exact wNil rfl rfl | exact wF rfl (LeC.fl _) | exact wF rfl (LeC.refl _) | apply wV5 rfl | apply wCv rfl | apply wCv' rfl | apply wE rfl | apply wMs rfl rfl rfl rfl | refine wMs rfl rfl ?_ rfl ?_))) | (apply RetA.cellW rfl rfl rfl rfl rfl; (repeat' (first | exact rfl | exact wE rfl rfl | exact wNV rfl | exact wLV rfl | exact wMs rfl rfl rfl rfl rfl | exact wCv rfl rfl | exact wCv' rfl rfl | exact wNil rfl rfl | exact wF rfl (LeC.fl _) | exact wF rfl (LeC.refl _) | apply wV5 rfl | apply wCv rfl | apply wCv' rfl | apply wE rfl | apply wMs rfl rfl rfl rfl | refine wMs rfl rfl ?_ rfl ?_))))) | exact retN))
  · have t1 : (sReset.toList == sAdd.toList) = false := by simp only [ByteArray.toList_eq]; rfl
    have t2 : (sReset.toList == sCount.toList) = false := by simp only [ByteArray.toList_eq]; rfl
    have t3 : (sReset.toList == sReset.toList) = true := by simp only [ByteArray.toList_eq]; rfl
    have hst := startA_c sCounter
    rw [show startS sCounter = (counterV, true) by unfold startS; simp only [ByteArray.toList_eq]; rfl] at hst
    rw [t1, t2, t3]
    (repeat' (first | refine CQ.seq ?_ | refine CQ.block ?_ | ((first | apply CQ.rT hU | apply CQ.rD hU); (· (repeat (first | exact RunL.nil | (apply RunL.op; (first | ((first | apply sv | (apply gv; (· rfl); (· rfl)) | (apply gvB; (· rfl); (· rfl); (· assumption))); (first | exact .callP rfl rfl ta (hr) | exact .callP rfl rfl ta (hc) | exact .callP rfl rfl ta (hcs) | exact .callP rfl rfl ta (hst) | exact (ixV (l := [intV' i, fltV f]) (y := fltV f) rfl rfl (by decide) rfl rfl rfl rfl rfl) | exact vv)) | exact gn rfl rfl rfl | exact gnU rfl rfl | exact gnB rfl rfl (by assumption) rfl | exact so oo | exact gR rfl rfl oo | exact so rr | exact gR rfl rfl rr | exact gRB rfl rfl (by assumption) oo | exact gRB rfl rfl (by assumption) rr))))); (· kernel_rfl); clear hU; intro hU) | refine CQ.condT rfl ?_ | refine CQ.condF rfl ?_ | refine CQ.condT (hbl ‹_›) ?_ | refine CQ.condF (hbl ‹_›) ?_ | refine CQ.ret ?_ | refine CQ.skip ?_ | refine CQ.exit ?_ | (apply CQ.cond rfl <;> intro hb)))
    (repeat' (first | (apply retC; (first | (apply RetA.tmp; (repeat' (first | exact rfl | exact wE rfl rfl | exact wNV rfl | exact wLV rfl | exact wMs rfl rfl rfl rfl rfl | exact wCv rfl rfl | exact wCv' rfl rfl | exact wNil rfl rfl | exact wF rfl (LeC.fl _) | exact wF rfl (LeC.refl _) | apply wV5 rfl | apply wCv rfl | apply wCv' rfl | apply wE rfl | apply wMs rfl rfl rfl rfl | refine wMs rfl rfl ?_ rfl ?_))) | (apply RetA.cellS rfl rfl rfl rfl rfl; (repeat' (first | exact rfl | exact wE rfl rfl | exact wNV rfl | exact wLV rfl | exact wMs rfl rfl rfl rfl rfl | exact wCv rfl rfl | exact wCv' rfl rfl | exact wNil rfl rfl | exact wF rfl (LeC.fl _) | exact wF rfl (LeC.refl _) | apply wV5 rfl | apply wCv rfl | apply wCv' rfl | apply wE rfl | apply wMs rfl rfl rfl rfl | refine wMs rfl rfl ?_ rfl ?_))) | (apply RetA.cellW rfl rfl rfl rfl rfl; (repeat' (first | exact rfl | exact wE rfl rfl | exact wNV rfl | exact wLV rfl | exact wMs rfl rfl rfl rfl rfl | exact wCv rfl rfl | exact wCv' rfl rfl | exact wNil rfl rfl | exact wF rfl (LeC.fl _) | exact wF rfl (LeC.refl _) | apply wV5 rfl | apply wCv rfl | apply wCv' rfl | apply wE rfl | apply wMs rfl rfl rfl rfl | refine wMs rfl rfl ?_ rfl ?_))))) | exact retN))
  · have t1 : (sTotal.toList == sAdd.toList) = false := by simp only [ByteArray.toList_eq]; rfl
    have t2 : (sTotal.toList == sCount.toList) = false := by simp only [ByteArray.toList_eq]; rfl
    have t3 : (sTotal.toList == sReset.toList) = false := by simp only [ByteArray.toList_eq]; rfl
    rw [t1, t2, t3]
    (repeat' (first | refine CQ.seq ?_ | refine CQ.block ?_ | ((first | apply CQ.rT hU | apply CQ.rD hU); (· (repeat (first | exact RunL.nil | (apply RunL.op; (first | ((first | apply sv | (apply gv; (· rfl); (· rfl)) | (apply gvB; (· rfl); (· rfl); (· assumption))); (first | exact .callP rfl rfl ta (hr) | exact .callP rfl rfl ta (hc) | exact .callP rfl rfl ta (hcs) | exact (ixV (l := [intV' i, fltV f]) (y := fltV f) rfl rfl (by decide) rfl rfl rfl rfl rfl) | exact vv)) | exact gn rfl rfl rfl | exact gnU rfl rfl | exact gnB rfl rfl (by assumption) rfl | exact so oo | exact gR rfl rfl oo | exact so rr | exact gR rfl rfl rr | exact gRB rfl rfl (by assumption) oo | exact gRB rfl rfl (by assumption) rr))))); (· kernel_rfl); clear hU; intro hU) | refine CQ.condT rfl ?_ | refine CQ.condF rfl ?_ | refine CQ.condT (hbl ‹_›) ?_ | refine CQ.condF (hbl ‹_›) ?_ | refine CQ.ret ?_ | refine CQ.skip ?_ | refine CQ.exit ?_ | (apply CQ.cond rfl <;> intro hb)))
    (repeat' (first | (apply retC; (first | (apply RetA.tmp; (repeat' (first | exact rfl | exact wE rfl rfl | exact wNV rfl | exact wLV rfl | exact wMs rfl rfl rfl rfl rfl | exact wCv rfl rfl | exact wCv' rfl rfl | exact wNil rfl rfl | exact wF rfl (LeC.fl _) | exact wF rfl (LeC.refl _) | apply wV5 rfl | apply wCv rfl | apply wCv' rfl | apply wE rfl | apply wMs rfl rfl rfl rfl | refine wMs rfl rfl ?_ rfl ?_))) | (apply RetA.cellS rfl rfl rfl rfl rfl; (repeat' (first | exact rfl | exact wE rfl rfl | exact wNV rfl | exact wLV rfl | exact wMs rfl rfl rfl rfl rfl | exact wCv rfl rfl | exact wCv' rfl rfl | exact wNil rfl rfl | exact wF rfl (LeC.fl _) | exact wF rfl (LeC.refl _) | apply wV5 rfl | apply wCv rfl | apply wCv' rfl | apply wE rfl | apply wMs rfl rfl rfl rfl | refine wMs rfl rfl ?_ rfl ?_))) | (apply RetA.cellW rfl rfl rfl rfl rfl; (repeat' (first | exact rfl | exact wE rfl rfl | exact wNV rfl | exact wLV rfl | exact wMs rfl rfl rfl rfl rfl | exact wCv rfl rfl | exact wCv' rfl rfl | exact wNil rfl rfl | exact wF rfl (LeC.fl _) | exact wF rfl (LeC.refl _) | apply wV5 rfl | apply wCv rfl | apply wCv' rfl | apply wE rfl | apply wMs rfl rfl rfl rfl | refine wMs rfl rfl ?_ rfl ?_))))) | exact retN))
end Go.Proofs.Ytbjcckjhfjhicaa
