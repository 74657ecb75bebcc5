/- Walks: a law's choice of a method. -/
import Derived.Test.YtbjcckjhfjhicaaF14
import Derived.Test.YtbjcckjhfjhicaaP2
namespace Go.Proofs.Ytbjcckjhfjhicaa
open Go Go.AM
set_option linter.unusedVariables false
set_option maxHeartbeats 4000000
set_option maxRecDepth 100000
set_option linter.unusedSimpArgs false

def sNope : ByteArray := ⟨#[110, 111, 112, 101]⟩
def pickM (l : List ByteArray) (k : Nat) : ByteArray := (l[k % (l.length + 1)]?).getD sNope
theorem namesRegister : methodsS (methR sRegister) = methodsS methRRegister := by
  have e : methR sRegister = methRRegister := by unfold methR; simp only [ByteArray.toList_eq]; rfl
  rw [e]
theorem methodRegister_c (k : Nat) (hk : k < 256) : Pure env.P 56 [.v (.int .u8 k)] [.v (.string (pickM (methodsS methRRegister) k))] := by
  refine Pure.go (E := env) Try.func56 rfl rfl rfl (Nat.le_of_ble_eq_true rfl) (Nat.le_of_ble_eq_true rfl) ?_; rintro ⟨w0, T0, L0, n, r0, hn0, hT0⟩ hn hT hU; obtain rfl : n = _ := hn
  have hm := methods1_c sRegister
  rw [namesRegister] at hm
  have hq : (IntKind.i64.wrap (k : Int)).tmod (IntKind.i64.wrap (((methodsS methRRegister).length : Int) + 1)) = ((k % 4 : Nat) : Int) := by
    rw [show IntKind.i64.wrap (((methodsS methRRegister).length : Int) + 1) = 4 from rfl, wrap_id (by omega) (by omega)]; exact (Int.ofNat_tmod k 4).symm
  have hl : (methodsS methRRegister).length = 3 := rfl
  cases hb : decide ((IntKind.i64.wrap (k : Int)).tmod (IntKind.i64.wrap (((methodsS methRRegister).length : Int) + 1)) < ((methodsS methRRegister).length : Int))
  · (repeat' (first | refine CQ.seq ?_ | refine CQ.block ?_ | ((first | apply CQ.rT hU | apply CQ.rD hU); (· (repeat (first | exact RunL.nil | (apply RunL.op; (first | ((first | apply sv | (apply gv; (· rfl); (· rfl)) | (apply gvB; (· rfl); (· rfl); (· assumption))); (first | exact .callP rfl rfl ta (hm) | exact (lnG (G := GS) rfl rfl rfl) | exact vv)) | exact gn rfl rfl rfl | exact gnU rfl rfl | exact gnB rfl rfl (by assumption) rfl | exact so oo))))); (· kernel_rfl); clear hU; intro hU) | refine CQ.condT rfl ?_ | refine CQ.condF rfl ?_ | refine CQ.condT (hbl ‹_›) ?_ | refine CQ.condF (hbl ‹_›) ?_ | refine CQ.ret ?_ | refine CQ.skip ?_ | refine CQ.exit ?_ | (apply CQ.cond rfl <;> intro hb)))
    (repeat' (first | (apply retC; (first | (apply RetA.tmp; (repeat' (first | exact rfl | exact wE rfl rfl | exact wNV rfl | exact wLV rfl | exact wMs rfl rfl rfl rfl rfl | exact wCv rfl rfl | exact wCv' rfl rfl | exact wNil rfl rfl | exact wF rfl (LeC.fl _) | exact wF rfl (LeC.refl _) | apply wV5 rfl | apply wCv rfl | apply wCv' rfl | apply wE rfl | apply wMs rfl rfl rfl rfl | refine wMs rfl rfl ?_ rfl ?_))) | (apply RetA.cellS rfl rfl rfl rfl rfl; (repeat' (first | exact rfl | exact wE rfl rfl | exact wNV rfl | exact wLV rfl | exact wMs rfl rfl rfl rfl rfl | exact wCv rfl rfl | exact wCv' rfl rfl | exact wNil rfl rfl | exact wF rfl (LeC.fl _) | exact wF rfl (LeC.refl _) | apply wV5 rfl | apply wCv rfl | apply wCv' rfl | apply wE rfl | apply wMs rfl rfl rfl rfl | refine wMs rfl rfl ?_ rfl ?_))) | (apply RetA.cellW rfl rfl rfl rfl rfl; (repeat' (first | exact rfl | exact wE rfl rfl | exact wNV rfl | exact wLV rfl | exact wMs rfl rfl rfl rfl rfl | exact wCv rfl rfl | exact wCv' rfl rfl | exact wNil rfl rfl | exact wF rfl (LeC.fl _) | exact wF rfl (LeC.refl _) | apply wV5 rfl | apply wCv rfl | apply wCv' rfl | apply wE rfl | apply wMs rfl rfl rfl rfl | refine wMs rfl rfl ?_ rfl ?_))))) | exact retN))
    clear hU
    rw [hq] at hb
    have hb := of_decide_eq_false hb
    rw [pickM, hl, List.getElem?_eq_none (by rw [hl] at hb ⊢; omega)]; rfl
  · have hlt : k % 4 < (methodsS methRRegister).length := by rw [hq] at hb; have hb := of_decide_eq_true hb; omega
    have h0 : 0 ≤ (IntKind.i64.wrap (k : Int)).tmod (IntKind.i64.wrap (((methodsS methRRegister).length : Int) + 1)) := by rw [hq]; omega
    have hy : ((methodsS methRRegister).map GS.g)[((IntKind.i64.wrap (k : Int)).tmod (IntKind.i64.wrap (((methodsS methRRegister).length : Int) + 1))).toNat]? = some (GS.g ((methodsS methRRegister)[k % 4])) := by
      rw [hq]; exact gy (List.getElem?_eq_getElem hlt)
    (repeat' (first | refine CQ.seq ?_ | refine CQ.block ?_ | ((first | apply CQ.rT hU | apply CQ.rD hU); (· (repeat (first | exact RunL.nil | (apply RunL.op; (first | ((first | apply sv | (apply gv; (· rfl); (· rfl)) | (apply gvB; (· rfl); (· rfl); (· assumption))); (first | exact .callP rfl rfl ta (hm) | exact (lnG (G := GS) rfl rfl rfl) | exact (.idxC rfl rfl h0 hy rfl rfl rfl rfl) | exact vv)) | exact gn rfl rfl rfl | exact gnU rfl rfl | exact gnB rfl rfl (by assumption) rfl | exact so oo))))); (· kernel_rfl); clear hU; intro hU) | refine CQ.condT rfl ?_ | refine CQ.condF rfl ?_ | refine CQ.condT (hbl ‹_›) ?_ | refine CQ.condF (hbl ‹_›) ?_ | refine CQ.ret ?_ | refine CQ.skip ?_ | refine CQ.exit ?_ | (apply CQ.cond rfl <;> intro hb)))
    (repeat' (first | (apply retC; (first | (apply RetA.tmp; (repeat' (first | exact rfl | exact wE rfl rfl | exact wNV rfl | exact wLV rfl | exact wMs rfl rfl rfl rfl rfl | exact wCv rfl rfl | exact wCv' rfl rfl | exact wNil rfl rfl | exact wF rfl (LeC.fl _) | exact wF rfl (LeC.refl _) | apply wV5 rfl | apply wCv rfl | apply wCv' rfl | apply wE rfl | apply wMs rfl rfl rfl rfl | refine wMs rfl rfl ?_ rfl ?_))) | (apply RetA.cellS rfl rfl rfl rfl rfl; (repeat' (first | exact rfl | exact wE rfl rfl | exact wNV rfl | exact wLV rfl | exact wMs rfl rfl rfl rfl rfl | exact wCv rfl rfl | exact wCv' rfl rfl | exact wNil rfl rfl | exact wF rfl (LeC.fl _) | exact wF rfl (LeC.refl _) | apply wV5 rfl | apply wCv rfl | apply wCv' rfl | apply wE rfl | apply wMs rfl rfl rfl rfl | refine wMs rfl rfl ?_ rfl ?_))) | (apply RetA.cellW rfl rfl rfl rfl rfl; (repeat' (first | exact rfl | exact wE rfl rfl | exact wNV rfl | exact wLV rfl | exact wMs rfl rfl rfl rfl rfl | exact wCv rfl rfl | exact wCv' rfl rfl | exact wNil rfl rfl | exact wF rfl (LeC.fl _) | exact wF rfl (LeC.refl _) | apply wV5 rfl | apply wCv rfl | apply wCv' rfl | apply wE rfl | apply wMs rfl rfl rfl rfl | refine wMs rfl rfl ?_ rfl ?_))))) | exact retN))
    rw [pickM, hl, List.getElem?_eq_getElem hlt]; rfl

theorem namesQueue : methodsS (methR sQueue) = methodsS methRQueue := by
  have e : methR sQueue = methRQueue := by unfold methR; simp only [ByteArray.toList_eq]; rfl
  rw [e]
theorem methodQueue_c (k : Nat) (hk : k < 256) : Pure env.P 47 [.v (.int .u8 k)] [.v (.string (pickM (methodsS methRQueue) k))] := by
  refine Pure.go (E := env) Try.func47 rfl rfl rfl (Nat.le_of_ble_eq_true rfl) (Nat.le_of_ble_eq_true rfl) ?_; rintro ⟨w0, T0, L0, n, r0, hn0, hT0⟩ hn hT hU; obtain rfl : n = _ := hn
  have hm := methods1_c sQueue
  rw [namesQueue] at hm
  have hq : (IntKind.i64.wrap (k : Int)).tmod (IntKind.i64.wrap (((methodsS methRQueue).length : Int) + 1)) = ((k % 6 : Nat) : Int) := by
    rw [show IntKind.i64.wrap (((methodsS methRQueue).length : Int) + 1) = 6 from rfl, wrap_id (by omega) (by omega)]; exact (Int.ofNat_tmod k 6).symm
  have hl : (methodsS methRQueue).length = 5 := rfl
  cases hb : decide ((IntKind.i64.wrap (k : Int)).tmod (IntKind.i64.wrap (((methodsS methRQueue).length : Int) + 1)) < ((methodsS methRQueue).length : Int))
  · (repeat' (first | refine CQ.seq ?_ | refine CQ.block ?_ | ((first | apply CQ.rT hU | apply CQ.rD hU); (· (repeat (first | exact RunL.nil | (apply RunL.op; (first | ((first | apply sv | (apply gv; (· rfl); (· rfl)) | (apply gvB; (· rfl); (· rfl); (· assumption))); (first | exact .callP rfl rfl ta (hm) | exact (lnG (G := GS) rfl rfl rfl) | exact vv)) | exact gn rfl rfl rfl | exact gnU rfl rfl | exact gnB rfl rfl (by assumption) rfl | exact so oo))))); (· kernel_rfl); clear hU; intro hU) | refine CQ.condT rfl ?_ | refine CQ.condF rfl ?_ | refine CQ.condT (hbl ‹_›) ?_ | refine CQ.condF (hbl ‹_›) ?_ | refine CQ.ret ?_ | refine CQ.skip ?_ | refine CQ.exit ?_ | (apply CQ.cond rfl <;> intro hb)))
    (repeat' (first | (apply retC; (first | (apply RetA.tmp; (repeat' (first | exact rfl | exact wE rfl rfl | exact wNV rfl | exact wLV rfl | exact wMs rfl rfl rfl rfl rfl | exact wCv rfl rfl | exact wCv' rfl rfl | exact wNil rfl rfl | exact wF rfl (LeC.fl _) | exact wF rfl (LeC.refl _) | apply wV5 rfl | apply wCv rfl | apply wCv' rfl | apply wE rfl | apply wMs rfl rfl rfl rfl | refine wMs rfl rfl ?_ rfl ?_))) | (apply RetA.cellS rfl rfl rfl rfl rfl; (repeat' (first | exact rfl | exact wE rfl rfl | exact wNV rfl | exact wLV rfl | exact wMs rfl rfl rfl rfl rfl | exact wCv rfl rfl | exact wCv' rfl rfl | exact wNil rfl rfl | exact wF rfl (LeC.fl _) | exact wF rfl (LeC.refl _) | apply wV5 rfl | apply wCv rfl | apply wCv' rfl | apply wE rfl | apply wMs rfl rfl rfl rfl | refine wMs rfl rfl ?_ rfl ?_))) | (apply RetA.cellW rfl rfl rfl rfl rfl; (repeat' (first | exact rfl | exact wE rfl rfl | exact wNV rfl | exact wLV rfl | exact wMs rfl rfl rfl rfl rfl | exact wCv rfl rfl | exact wCv' rfl rfl | exact wNil rfl rfl | exact wF rfl (LeC.fl _) | exact wF rfl (LeC.refl _) | apply wV5 rfl | apply wCv rfl | apply wCv' rfl | apply wE rfl | apply wMs rfl rfl rfl rfl | refine wMs rfl rfl ?_ rfl ?_))))) | exact retN))
    clear hU
    rw [hq] at hb
    have hb := of_decide_eq_false hb
    rw [pickM, hl, List.getElem?_eq_none (by rw [hl] at hb ⊢; omega)]; rfl
  · have hlt : k % 6 < (methodsS methRQueue).length := by rw [hq] at hb; have hb := of_decide_eq_true hb; omega
    have h0 : 0 ≤ (IntKind.i64.wrap (k : Int)).tmod (IntKind.i64.wrap (((methodsS methRQueue).length : Int) + 1)) := by rw [hq]; omega
    have hy : ((methodsS methRQueue).map GS.g)[((IntKind.i64.wrap (k : Int)).tmod (IntKind.i64.wrap (((methodsS methRQueue).length : Int) + 1))).toNat]? = some (GS.g ((methodsS methRQueue)[k % 6])) := by
      rw [hq]; exact gy (List.getElem?_eq_getElem hlt)
    (repeat' (first | refine CQ.seq ?_ | refine CQ.block ?_ | ((first | apply CQ.rT hU | apply CQ.rD hU); (· (repeat (first | exact RunL.nil | (apply RunL.op; (first | ((first | apply sv | (apply gv; (· rfl); (· rfl)) | (apply gvB; (· rfl); (· rfl); (· assumption))); (first | exact .callP rfl rfl ta (hm) | exact (lnG (G := GS) rfl rfl rfl) | exact (.idxC rfl rfl h0 hy rfl rfl rfl rfl) | exact vv)) | exact gn rfl rfl rfl | exact gnU rfl rfl | exact gnB rfl rfl (by assumption) rfl | exact so oo))))); (· kernel_rfl); clear hU; intro hU) | refine CQ.condT rfl ?_ | refine CQ.condF rfl ?_ | refine CQ.condT (hbl ‹_›) ?_ | refine CQ.condF (hbl ‹_›) ?_ | refine CQ.ret ?_ | refine CQ.skip ?_ | refine CQ.exit ?_ | (apply CQ.cond rfl <;> intro hb)))
    (repeat' (first | (apply retC; (first | (apply RetA.tmp; (repeat' (first | exact rfl | exact wE rfl rfl | exact wNV rfl | exact wLV rfl | exact wMs rfl rfl rfl rfl rfl | exact wCv rfl rfl | exact wCv' rfl rfl | exact wNil rfl rfl | exact wF rfl (LeC.fl _) | exact wF rfl (LeC.refl _) | apply wV5 rfl | apply wCv rfl | apply wCv' rfl | apply wE rfl | apply wMs rfl rfl rfl rfl | refine wMs rfl rfl ?_ rfl ?_))) | (apply RetA.cellS rfl rfl rfl rfl rfl; (repeat' (first | exact rfl | exact wE rfl rfl | exact wNV rfl | exact wLV rfl | exact wMs rfl rfl rfl rfl rfl | exact wCv rfl rfl | exact wCv' rfl rfl | exact wNil rfl rfl | exact wF rfl (LeC.fl _) | exact wF rfl (LeC.refl _) | apply wV5 rfl | apply wCv rfl | apply wCv' rfl | apply wE rfl | apply wMs rfl rfl rfl rfl | refine wMs rfl rfl ?_ rfl ?_))) | (apply RetA.cellW rfl rfl rfl rfl rfl; (repeat' (first | exact rfl | exact wE rfl rfl | exact wNV rfl | exact wLV rfl | exact wMs rfl rfl rfl rfl rfl | exact wCv rfl rfl | exact wCv' rfl rfl | exact wNil rfl rfl | exact wF rfl (LeC.fl _) | exact wF rfl (LeC.refl _) | apply wV5 rfl | apply wCv rfl | apply wCv' rfl | apply wE rfl | apply wMs rfl rfl rfl rfl | refine wMs rfl rfl ?_ rfl ?_))))) | exact retN))
    rw [pickM, hl, List.getElem?_eq_getElem hlt]; rfl

theorem namesCounter : methodsS (methR sCounter) = methodsS methRCounter := by
  have e : methR sCounter = methRCounter := by unfold methR; simp only [ByteArray.toList_eq]; rfl
  rw [e]
theorem methodCounter_c (k : Nat) (hk : k < 256) : Pure env.P 61 [.v (.int .u8 k)] [.v (.string (pickM (methodsS methRCounter) k))] := by
  refine Pure.go (E := env) Try.func61 rfl rfl rfl (Nat.le_of_ble_eq_true rfl) (Nat.le_of_ble_eq_true rfl) ?_; rintro ⟨w0, T0, L0, n, r0, hn0, hT0⟩ hn hT hU; obtain rfl : n = _ := hn
  have hm := methods1_c sCounter
  rw [namesCounter] at hm
  have hq : (IntKind.i64.wrap (k : Int)).tmod (IntKind.i64.wrap (((methodsS methRCounter).length : Int) + 1)) = ((k % 5 : Nat) : Int) := by
    rw [show IntKind.i64.wrap (((methodsS methRCounter).length : Int) + 1) = 5 from rfl, wrap_id (by omega) (by omega)]; exact (Int.ofNat_tmod k 5).symm
  have hl : (methodsS methRCounter).length = 4 := rfl
  cases hb : decide ((IntKind.i64.wrap (k : Int)).tmod (IntKind.i64.wrap (((methodsS methRCounter).length : Int) + 1)) < ((methodsS methRCounter).length : Int))
  · (repeat' (first | refine CQ.seq ?_ | refine CQ.block ?_ | ((first | apply CQ.rT hU | apply CQ.rD hU); (· (repeat (first | exact RunL.nil | (apply RunL.op; (first | ((first | apply sv | (apply gv; (· rfl); (· rfl)) | (apply gvB; (· rfl); (· rfl); (· assumption))); (first | exact .callP rfl rfl ta (hm) | exact (lnG (G := GS) rfl rfl rfl) | exact vv)) | exact gn rfl rfl rfl | exact gnU rfl rfl | exact gnB rfl rfl (by assumption) rfl | exact so oo))))); (· kernel_rfl); clear hU; intro hU) | refine CQ.condT rfl ?_ | refine CQ.condF rfl ?_ | refine CQ.condT (hbl ‹_›) ?_ | refine CQ.condF (hbl ‹_›) ?_ | refine CQ.ret ?_ | refine CQ.skip ?_ | refine CQ.exit ?_ | (apply CQ.cond rfl <;> intro hb)))
    (repeat' (first | (apply retC; (first | (apply RetA.tmp; (repeat' (first | exact rfl | exact wE rfl rfl | exact wNV rfl | exact wLV rfl | exact wMs rfl rfl rfl rfl rfl | exact wCv rfl rfl | exact wCv' rfl rfl | exact wNil rfl rfl | exact wF rfl (LeC.fl _) | exact wF rfl (LeC.refl _) | apply wV5 rfl | apply wCv rfl | apply wCv' rfl | apply wE rfl | apply wMs rfl rfl rfl rfl | refine wMs rfl rfl ?_ rfl ?_))) | (apply RetA.cellS rfl rfl rfl rfl rfl; (repeat' (first | exact rfl | exact wE rfl rfl | exact wNV rfl | exact wLV rfl | exact wMs rfl rfl rfl rfl rfl | exact wCv rfl rfl | exact wCv' rfl rfl | exact wNil rfl rfl | exact wF rfl (LeC.fl _) | exact wF rfl (LeC.refl _) | apply wV5 rfl | apply wCv rfl | apply wCv' rfl | apply wE rfl | apply wMs rfl rfl rfl rfl | refine wMs rfl rfl ?_ rfl ?_))) | (apply RetA.cellW rfl rfl rfl rfl rfl; (repeat' (first | exact rfl | exact wE rfl rfl | exact wNV rfl | exact wLV rfl | exact wMs rfl rfl rfl rfl rfl | exact wCv rfl rfl | exact wCv' rfl rfl | exact wNil rfl rfl | exact wF rfl (LeC.fl _) | exact wF rfl (LeC.refl _) | apply wV5 rfl | apply wCv rfl | apply wCv' rfl | apply wE rfl | apply wMs rfl rfl rfl rfl | refine wMs rfl rfl ?_ rfl ?_))))) | exact retN))
    clear hU
    rw [hq] at hb
    have hb := of_decide_eq_false hb
    rw [pickM, hl, List.getElem?_eq_none (by rw [hl] at hb ⊢; omega)]; rfl
  · have hlt : k % 5 < (methodsS methRCounter).length := by rw [hq] at hb; have hb := of_decide_eq_true hb; omega
    have h0 : 0 ≤ (IntKind.i64.wrap (k : Int)).tmod (IntKind.i64.wrap (((methodsS methRCounter).length : Int) + 1)) := by rw [hq]; omega
    have hy : ((methodsS methRCounter).map GS.g)[((IntKind.i64.wrap (k : Int)).tmod (IntKind.i64.wrap (((methodsS methRCounter).length : Int) + 1))).toNat]? = some (GS.g ((methodsS methRCounter)[k % 5])) := by
      rw [hq]; exact gy (List.getElem?_eq_getElem hlt)
    (repeat' (first | refine CQ.seq ?_ | refine CQ.block ?_ | ((first | apply CQ.rT hU | apply CQ.rD hU); (· (repeat (first | exact RunL.nil | (apply RunL.op; (first | ((first | apply sv | (apply gv; (· rfl); (· rfl)) | (apply gvB; (· rfl); (· rfl); (· assumption))); (first | exact .callP rfl rfl ta (hm) | exact (lnG (G := GS) rfl rfl rfl) | exact (.idxC rfl rfl h0 hy rfl rfl rfl rfl) | exact vv)) | exact gn rfl rfl rfl | exact gnU rfl rfl | exact gnB rfl rfl (by assumption) rfl | exact so oo))))); (· kernel_rfl); clear hU; intro hU) | refine CQ.condT rfl ?_ | refine CQ.condF rfl ?_ | refine CQ.condT (hbl ‹_›) ?_ | refine CQ.condF (hbl ‹_›) ?_ | refine CQ.ret ?_ | refine CQ.skip ?_ | refine CQ.exit ?_ | (apply CQ.cond rfl <;> intro hb)))
    (repeat' (first | (apply retC; (first | (apply RetA.tmp; (repeat' (first | exact rfl | exact wE rfl rfl | exact wNV rfl | exact wLV rfl | exact wMs rfl rfl rfl rfl rfl | exact wCv rfl rfl | exact wCv' rfl rfl | exact wNil rfl rfl | exact wF rfl (LeC.fl _) | exact wF rfl (LeC.refl _) | apply wV5 rfl | apply wCv rfl | apply wCv' rfl | apply wE rfl | apply wMs rfl rfl rfl rfl | refine wMs rfl rfl ?_ rfl ?_))) | (apply RetA.cellS rfl rfl rfl rfl rfl; (repeat' (first | exact rfl | exact wE rfl rfl | exact wNV rfl | exact wLV rfl | exact wMs rfl rfl rfl rfl rfl | exact wCv rfl rfl | exact wCv' rfl rfl | exact wNil rfl rfl | exact wF rfl (LeC.fl _) | exact wF rfl (LeC.refl _) | apply wV5 rfl | apply wCv rfl | apply wCv' rfl | apply wE rfl | apply wMs rfl rfl rfl rfl | refine wMs rfl rfl ?_ rfl ?_))) | (apply RetA.cellW rfl rfl rfl rfl rfl; (repeat' (first | exact rfl | exact wE rfl rfl | exact wNV rfl | exact wLV rfl | exact wMs rfl rfl rfl rfl rfl | exact wCv rfl rfl | exact wCv' rfl rfl | exact wNil rfl rfl | exact wF rfl (LeC.fl _) | exact wF rfl (LeC.refl _) | apply wV5 rfl | apply wCv rfl | apply wCv' rfl | apply wE rfl | apply wMs rfl rfl rfl rfl | refine wMs rfl rfl ?_ rfl ?_))))) | exact retN))
    rw [pickM, hl, List.getElem?_eq_getElem hlt]; rfl

end Go.Proofs.Ytbjcckjhfjhicaa
