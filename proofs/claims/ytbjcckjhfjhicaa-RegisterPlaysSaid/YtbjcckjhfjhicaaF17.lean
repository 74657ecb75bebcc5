/- Walks: the register's further laws. -/
import Derived.Test.YtbjcckjhfjhicaaF16
import Derived.Test.YtbjcckjhfjhicaaP3
namespace Go.Proofs.Ytbjcckjhfjhicaa
open Go Go.AM
set_option linter.unusedVariables false
set_option maxHeartbeats 4000000
set_option maxRecDepth 100000
set_option linter.unusedSimpArgs false

def floatV (b : Nat) : V := .mk 2 0 (bitsF b) ⟨#[]⟩ []
theorem eqF_bits1 (a b : Nat) : eqF (bitsF a) b = eqF a b := by
  rcases ord_self a with h | h
  · rw [bitsF_nan h]; unfold eqF; rw [(ord_nan (a := b) nanB_nan).2, (ord_nan (a := b) h).2]
  · rw [bitsF_num h]
theorem reg_cas (f g : Nat) : regS (floatV f) sCas [floatV g, intV' 7] = if eqF f g || (neF f f && neF g g) then (intV' 7, intV' 1, 0) else (floatV f, intV' 0, 0) := by
  have hc : ∀ b, checkS (floatV b) = 0 := fun b => rfl
  have h7 : checkS (intV' 7) = 0 := rfl
  have hck : checkR sRegister sCas [floatV g, intV' 7] = 0 := by
    unfold checkR findS
    rw [methR_reg]
    simp only [ByteArray.toList_eq]
    rfl
  have e1 : (sCas.toList == sSet.toList) = false := by simp only [ByteArray.toList_eq]; rfl
  have e3 : (sCas.toList == sGet.toList) = false := by simp only [ByteArray.toList_eq]; rfl
  have c1 : cleanS (floatV f) = floatV f := by rw [cleanS_eq]; show V.mk 2 0 (bitsF (bitsF f)) ⟨#[]⟩ [] = _; rw [bitsF_idem]; rfl
  have c2 : equalS (floatV f) (floatV g) = (eqF f g || (neF f f && neF g g)) := by
    rw [equalS_eq]
    show (eqF (bitsF f) (bitsF g) || (neF (bitsF f) (bitsF f) && neF (bitsF g) (bitsF g))) = _
    rw [eqF_bits1, eqF_bits, neF_bits, neF_bits]
  unfold regS
  rw [hck, e1, e3, c1, hc]
  show (if equalS (floatV f) (floatV g) then _ else _) = _
  rw [c2]
  rfl
theorem registerFloats_c (f g : Nat) : Pure env.P 13 [.fl f, .fl g] [.v (.bool true)] := by
  refine Pure.go (E := env) Try.func13 rfl rfl rfl (Nat.le_of_ble_eq_true rfl) (Nat.le_of_ble_eq_true rfl) ?_; rintro ⟨w0, T0, L0, n, r0, hn0, hT0⟩ hn hT hU; obtain rfl : n = _ := hn
  have hkn := knownReg_c
  have hf : Pure env.P 54 [.fl f] [(floatV f).cv] := float_c f
  have hg : Pure env.P 54 [.fl g] [(floatV g).cv] := float_c g
  have h7 : Pure env.P 31 [.v (.int .i64 7)] [(intV' 7).cv] := int_c 7
  have hd := regDo_c (floatV f) sCas [floatV g, intV' 7]
  rw [reg_cas] at hd
  have s1 := same_c (intV' 7) (intV' 7)
  have s2 := same_c (floatV f) (floatV f)
  rw [sameS_refl] at s1 s2
  cases e1 : eqF f g
  rotate_left
  · rw [e1] at hd
    unfold eqF at e1
    (repeat' (first | refine CQ.seq ?_ | refine CQ.block ?_ | ((first | apply CQ.rT hU | apply CQ.rD hU); (· (repeat (first | exact RunL.nil | (apply RunL.op; (first | ((first | apply sv | (apply gv; (· rfl); (· rfl)) | (apply gvB; (· rfl); (· rfl); (· assumption))); (first | exact .callP rfl rfl ta (hkn) | exact .callP rfl rfl ta (hf) | exact .callP rfl rfl ta (hg) | exact .callP rfl rfl ta (h7) | exact .callP rfl rfl ta (hd) | exact .callP rfl rfl ta (s1) | exact .callP rfl rfl ta (s2) | exact vv)) | exact gn rfl rfl rfl | exact gnU rfl rfl | exact gnB rfl rfl (by assumption) rfl | exact so oo))))); (· kernel_rfl); clear hU; intro hU) | refine CQ.condT rfl ?_ | refine CQ.condF rfl ?_ | refine CQ.condT (hbl ‹_›) ?_ | refine CQ.condF (hbl ‹_›) ?_ | refine CQ.ret ?_ | refine CQ.skip ?_ | refine CQ.exit ?_ | (apply CQ.cond rfl <;> intro hb)))
    (repeat' (first | (apply retC; (first | (apply RetA.tmp; (repeat' (first | exact rfl | exact wE rfl rfl | exact wNV rfl | exact wLV rfl | exact wMs rfl rfl rfl rfl rfl | exact wCv rfl rfl | exact wCv' rfl rfl | exact wNil rfl rfl | exact wF rfl (LeC.fl _) | exact wF rfl (LeC.refl _) | apply wV5 rfl | apply wCv rfl | apply wCv' rfl | apply wE rfl | apply wMs rfl rfl rfl rfl | refine wMs rfl rfl ?_ rfl ?_))) | (apply RetA.cellS rfl rfl rfl rfl rfl; (repeat' (first | exact rfl | exact wE rfl rfl | exact wNV rfl | exact wLV rfl | exact wMs rfl rfl rfl rfl rfl | exact wCv rfl rfl | exact wCv' rfl rfl | exact wNil rfl rfl | exact wF rfl (LeC.fl _) | exact wF rfl (LeC.refl _) | apply wV5 rfl | apply wCv rfl | apply wCv' rfl | apply wE rfl | apply wMs rfl rfl rfl rfl | refine wMs rfl rfl ?_ rfl ?_))) | (apply RetA.cellW rfl rfl rfl rfl rfl; (repeat' (first | exact rfl | exact wE rfl rfl | exact wNV rfl | exact wLV rfl | exact wMs rfl rfl rfl rfl rfl | exact wCv rfl rfl | exact wCv' rfl rfl | exact wNil rfl rfl | exact wF rfl (LeC.fl _) | exact wF rfl (LeC.refl _) | apply wV5 rfl | apply wCv rfl | apply wCv' rfl | apply wE rfl | apply wMs rfl rfl rfl rfl | refine wMs rfl rfl ?_ rfl ?_))))) | exact retN))
  cases e2 : neF f f
  · rw [e1, e2] at hd
    unfold eqF at e1; unfold neF at e2
    (repeat' (first | refine CQ.seq ?_ | refine CQ.block ?_ | ((first | apply CQ.rT hU | apply CQ.rD hU); (· (repeat (first | exact RunL.nil | (apply RunL.op; (first | ((first | apply sv | (apply gv; (· rfl); (· rfl)) | (apply gvB; (· rfl); (· rfl); (· assumption))); (first | exact .callP rfl rfl ta (hkn) | exact .callP rfl rfl ta (hf) | exact .callP rfl rfl ta (hg) | exact .callP rfl rfl ta (h7) | exact .callP rfl rfl ta (hd) | exact .callP rfl rfl ta (s1) | exact .callP rfl rfl ta (s2) | exact vv)) | exact gn rfl rfl rfl | exact gnU rfl rfl | exact gnB rfl rfl (by assumption) rfl | exact so oo))))); (· kernel_rfl); clear hU; intro hU) | refine CQ.condT rfl ?_ | refine CQ.condF rfl ?_ | refine CQ.condT (hbl ‹_›) ?_ | refine CQ.condF (hbl ‹_›) ?_ | refine CQ.ret ?_ | refine CQ.skip ?_ | refine CQ.exit ?_ | (apply CQ.cond rfl <;> intro hb)))
    (repeat' (first | (apply retC; (first | (apply RetA.tmp; (repeat' (first | exact rfl | exact wE rfl rfl | exact wNV rfl | exact wLV rfl | exact wMs rfl rfl rfl rfl rfl | exact wCv rfl rfl | exact wCv' rfl rfl | exact wNil rfl rfl | exact wF rfl (LeC.fl _) | exact wF rfl (LeC.refl _) | apply wV5 rfl | apply wCv rfl | apply wCv' rfl | apply wE rfl | apply wMs rfl rfl rfl rfl | refine wMs rfl rfl ?_ rfl ?_))) | (apply RetA.cellS rfl rfl rfl rfl rfl; (repeat' (first | exact rfl | exact wE rfl rfl | exact wNV rfl | exact wLV rfl | exact wMs rfl rfl rfl rfl rfl | exact wCv rfl rfl | exact wCv' rfl rfl | exact wNil rfl rfl | exact wF rfl (LeC.fl _) | exact wF rfl (LeC.refl _) | apply wV5 rfl | apply wCv rfl | apply wCv' rfl | apply wE rfl | apply wMs rfl rfl rfl rfl | refine wMs rfl rfl ?_ rfl ?_))) | (apply RetA.cellW rfl rfl rfl rfl rfl; (repeat' (first | exact rfl | exact wE rfl rfl | exact wNV rfl | exact wLV rfl | exact wMs rfl rfl rfl rfl rfl | exact wCv rfl rfl | exact wCv' rfl rfl | exact wNil rfl rfl | exact wF rfl (LeC.fl _) | exact wF rfl (LeC.refl _) | apply wV5 rfl | apply wCv rfl | apply wCv' rfl | apply wE rfl | apply wMs rfl rfl rfl rfl | refine wMs rfl rfl ?_ rfl ?_))))) | exact retN))
  cases e3 : neF g g
  all_goals rw [e1, e2, e3] at hd
  all_goals unfold eqF at e1; unfold neF at e2 e3
  all_goals (repeat' (first | refine CQ.seq ?_ | refine CQ.block ?_ | ((first | apply CQ.rT hU | apply CQ.rD hU); (· (repeat (first | exact RunL.nil | (apply RunL.op; (first | ((first | apply sv | (apply gv; (· rfl); (· rfl)) | (apply gvB; (· rfl); (· rfl); (· assumption))); (first | exact .callP rfl rfl ta (hkn) | exact .callP rfl rfl ta (hf) | exact .callP rfl rfl ta (hg) | exact .callP rfl rfl ta (h7) | exact .callP rfl rfl ta (hd) | exact .callP rfl rfl ta (s1) | exact .callP rfl rfl ta (s2) | exact vv)) | exact gn rfl rfl rfl | exact gnU rfl rfl | exact gnB rfl rfl (by assumption) rfl | exact so oo))))); (· kernel_rfl); clear hU; intro hU) | refine CQ.condT rfl ?_ | refine CQ.condF rfl ?_ | refine CQ.condT (hbl ‹_›) ?_ | refine CQ.condF (hbl ‹_›) ?_ | refine CQ.ret ?_ | refine CQ.skip ?_ | refine CQ.exit ?_ | (apply CQ.cond rfl <;> intro hb)))
  all_goals (repeat' (first | (apply retC; (first | (apply RetA.tmp; (repeat' (first | exact rfl | exact wE rfl rfl | exact wNV rfl | exact wLV rfl | exact wMs rfl rfl rfl rfl rfl | exact wCv rfl rfl | exact wCv' rfl rfl | exact wNil rfl rfl | exact wF rfl (LeC.fl _) | exact wF rfl (LeC.refl _) | apply wV5 rfl | apply wCv rfl | apply wCv' rfl | apply wE rfl | apply wMs rfl rfl rfl rfl | refine wMs rfl rfl ?_ rfl ?_))) | (apply RetA.cellS rfl rfl rfl rfl rfl; (repeat' (first | exact rfl | exact wE rfl rfl | exact wNV rfl | exact wLV rfl | exact wMs rfl rfl rfl rfl rfl | exact wCv rfl rfl | exact wCv' rfl rfl | exact wNil rfl rfl | exact wF rfl (LeC.fl _) | exact wF rfl (LeC.refl _) | apply wV5 rfl | apply wCv rfl | apply wCv' rfl | apply wE rfl | apply wMs rfl rfl rfl rfl | refine wMs rfl rfl ?_ rfl ?_))) | (apply RetA.cellW rfl rfl rfl rfl rfl; (repeat' (first | exact rfl | exact wE rfl rfl | exact wNV rfl | exact wLV rfl | exact wMs rfl rfl rfl rfl rfl | exact wCv rfl rfl | exact wCv' rfl rfl | exact wNil rfl rfl | exact wF rfl (LeC.fl _) | exact wF rfl (LeC.refl _) | apply wV5 rfl | apply wCv rfl | apply wCv' rfl | apply wE rfl | apply wMs rfl rfl rfl rfl | refine wMs rfl rfl ?_ rfl ?_))))) | exact retN))

theorem start_reg : Pure env.P 34 [.v (.string sRegister)] [nilV.cv, .v (.bool true)] := by
  refine Pure.go (E := env) Try.func34 rfl rfl rfl (Nat.le_of_ble_eq_true rfl) (Nat.le_of_ble_eq_true rfl) ?_; rintro ⟨w0, T0, L0, n, r0, hn0, hT0⟩ hn hT hU; obtain rfl : n = _ := hn
  have c0 : (sRegister.toList == sCounter.toList) = false := by simp only [ByteArray.toList_eq]; rfl
  have c1 : (sRegister.toList == sLedger.toList) = false := by simp only [ByteArray.toList_eq]; rfl
  have c2 : (sRegister.toList == sOrch.toList) = false := by simp only [ByteArray.toList_eq]; rfl
  have c3 : (sRegister.toList == sQueue.toList) = false := by simp only [ByteArray.toList_eq]; rfl
  have c4 : (sRegister.toList == sRegister.toList) = true := by simp only [ByteArray.toList_eq]; rfl
  have c5 : (sRegister.toList == sTable.toList) = false := by simp only [ByteArray.toList_eq]; rfl
  (repeat' (first | refine CQ.seq ?_ | refine CQ.block ?_ | ((first | apply CQ.rT hU | apply CQ.rD hU); (· (repeat (first | exact RunL.nil | (apply RunL.op; (first | ((first | apply sv | (apply gv; (· rfl); (· rfl)) | (apply gvB; (· rfl); (· rfl); (· assumption))); (first | exact vv)) | exact gn rfl rfl rfl | exact gnU rfl rfl | exact gnB rfl rfl (by assumption) rfl | exact so oo))))); (· kernel_rfl); clear hU; intro hU) | refine CQ.condT rfl ?_ | refine CQ.condF rfl ?_ | refine CQ.condT (hbl ‹_›) ?_ | refine CQ.condF (hbl ‹_›) ?_ | refine CQ.ret ?_ | refine CQ.skip ?_ | refine CQ.exit ?_ | (apply CQ.cond rfl <;> intro hb)))
  (repeat' (first | (apply retC; (first | (apply RetA.tmp; (repeat' (first | exact rfl | exact wE rfl rfl | exact wNV rfl | exact wLV rfl | exact wMs rfl rfl rfl rfl rfl | exact wCv rfl rfl | exact wCv' rfl rfl | exact wNil rfl rfl | exact wF rfl (LeC.fl _) | exact wF rfl (LeC.refl _) | apply wV5 rfl | apply wCv rfl | apply wCv' rfl | apply wE rfl | apply wMs rfl rfl rfl rfl | refine wMs rfl rfl ?_ rfl ?_))) | (apply RetA.cellS rfl rfl rfl rfl rfl; (repeat' (first | exact rfl | exact wE rfl rfl | exact wNV rfl | exact wLV rfl | exact wMs rfl rfl rfl rfl rfl | exact wCv rfl rfl | exact wCv' rfl rfl | exact wNil rfl rfl | exact wF rfl (LeC.fl _) | exact wF rfl (LeC.refl _) | apply wV5 rfl | apply wCv rfl | apply wCv' rfl | apply wE rfl | apply wMs rfl rfl rfl rfl | refine wMs rfl rfl ?_ rfl ?_))) | (apply RetA.cellW rfl rfl rfl rfl rfl; (repeat' (first | exact rfl | exact wE rfl rfl | exact wNV rfl | exact wLV rfl | exact wMs rfl rfl rfl rfl rfl | exact wCv rfl rfl | exact wCv' rfl rfl | exact wNil rfl rfl | exact wF rfl (LeC.fl _) | exact wF rfl (LeC.refl _) | apply wV5 rfl | apply wCv rfl | apply wCv' rfl | apply wE rfl | apply wMs rfl rfl rfl rfl | refine wMs rfl rfl ?_ rfl ?_))))) | exact retN))

theorem regS_right {s : V} {m : ByteArray} {l : List V} (h : (regS s m l).2.2 = 0) : checkS (regS s m l).1 = 0 := by
  revert h
  unfold regS
  cases h0 : (checkS s == 0)
  · intro h; exact absurd h (show ¬ ((31 : Int) = 0) by decide)
  have hs : checkS s = 0 := by simpa using h0
  cases h1 : (checkR sRegister m l != 0)
  rotate_left
  · intro h; simp at h1; exact absurd h h1
  have h1' : checkR sRegister m l = 0 := by simpa using h1
  obtain ⟨hck, hsig⟩ := regSig h1'
  have hn : checkS nilV = 0 := rfl
  have hg : ∀ k, checkS (l.getD k nilV) = 0 := fun k => by
    by_cases hk : k < l.length
    · rw [getD_of (List.getElem?_eq_getElem hk)]; exact hck _ (List.getElem_mem _)
    · rw [List.getD, List.getElem?_eq_none (by omega)]; exact hn
  intro _
  simp only [Bool.not_true, Bool.false_eq_true, if_false]
  split
  · exact check_clean (hg 0)
  split
  · exact check_clean hs
  split
  · exact check_clean (hg 1)
  · exact check_clean hs
end Go.Proofs.Ytbjcckjhfjhicaa
