/- Walks: the chapter's example of runs, and the law of plans. -/
import Derived.Test.YtbjcckjhfjhicaaG18
import Derived.Test.YtbjcckjhfjhicaaP3
namespace Go.Proofs.Ytbjcckjhfjhicaa
open Go Go.AM
set_option linter.unusedVariables false
set_option maxHeartbeats 4000000
set_option maxRecDepth 100000
set_option linter.unusedSimpArgs false

def sFail : ByteArray := ⟨#[102, 97, 105, 108]⟩
def sRuns : ByteArray := ⟨#[114, 117, 110, 115]⟩
theorem orchRun_c : Pure env.P 79 [(intV' 0).cv, .v (.string sRun), .sl 5 ([intV' 5].map V.cv)] [(intV' 1).cv, (V.mk 4 0 0 ⟨#[]⟩ [intV' 5]).cv, .v (.int .i64 0)] := by
  refine Pure.go (E := env) Try.func79 rfl rfl rfl (Nat.le_of_ble_eq_true rfl) (Nat.le_of_ble_eq_true rfl) ?_; rintro ⟨w0, T0, L0, n, r0, hn0, hT0⟩ hn hT hU; obtain rfl : n = _ := hn
  have t1 : (sRun.toList == sRuns.toList) = false := by simp only [ByteArray.toList_eq]; rfl
  have t2 : (sRun.toList == sRun.toList) = true := by simp only [ByteArray.toList_eq]; rfl
  have hr := orchRight_c (intV' 0)
  have h1 := clean_c (intV' 0) (by kernel_rfl)
  rw [show cleanS (intV' 0) = intV' 0 by kernel_rfl] at h1
  have h2 := check_c (V.mk 4 0 0 ⟨#[]⟩ [intV' 5])
  rw [show checkS (V.mk 4 0 0 ⟨#[]⟩ [intV' 5]) = 0 by kernel_rfl] at h2
  have h3 := clean_c (V.mk 4 0 0 ⟨#[]⟩ [intV' 5]) (by kernel_rfl)
  rw [show cleanS (V.mk 4 0 0 ⟨#[]⟩ [intV' 5]) = V.mk 4 0 0 ⟨#[]⟩ [intV' 5] by kernel_rfl] at h3
  (repeat' (first | refine CQ.seq ?_ | refine CQ.block ?_ | ((first | apply CQ.rT hU | apply CQ.rD hU); (· (repeat (first | exact RunL.nil | (apply RunL.op; (first | ((first | apply sv | (apply gv; (· rfl); (· rfl)) | (apply gvB; (· rfl); (· rfl); (· assumption))); (first | exact .callP rfl rfl ta (hr) | exact .callP rfl rfl ta (h1) | exact .callP rfl rfl ta (h2) | exact .callP rfl rfl ta (h3) | exact vv)) | exact gn rfl rfl rfl | exact gnU rfl rfl | exact gnB rfl rfl (by assumption) rfl | exact so oo | exact gR rfl rfl oo | exact so rr | exact gR rfl rfl rr | exact gRB rfl rfl (by assumption) oo | exact gRB rfl rfl (by assumption) rr))))); (· kernel_rfl); clear hU; intro hU) | refine CQ.condT rfl ?_ | refine CQ.condF rfl ?_ | refine CQ.condT (hbl ‹_›) ?_ | refine CQ.condF (hbl ‹_›) ?_ | refine CQ.ret ?_ | refine CQ.skip ?_ | refine CQ.exit ?_ | (apply CQ.cond rfl <;> intro hb)))
  (repeat' (first | (apply retC; (first | (apply RetA.tmp; (repeat' (first | exact rfl | exact wE rfl rfl | exact wNV rfl | exact wLV rfl | exact wMs rfl rfl rfl rfl rfl | exact wCv rfl rfl | exact wCv' rfl rfl | exact wNil rfl rfl | exact wF rfl (LeC.fl _) | exact wF rfl (LeC.refl _) | apply wV5 rfl | apply wCv rfl | apply wCv' rfl | apply wE rfl | apply wMs rfl rfl rfl rfl | refine wMs rfl rfl ?_ rfl ?_))) | (apply RetA.cellS rfl rfl rfl rfl rfl; (repeat' (first | exact rfl | exact wE rfl rfl | exact wNV rfl | exact wLV rfl | exact wMs rfl rfl rfl rfl rfl | exact wCv rfl rfl | exact wCv' rfl rfl | exact wNil rfl rfl | exact wF rfl (LeC.fl _) | exact wF rfl (LeC.refl _) | apply wV5 rfl | apply wCv rfl | apply wCv' rfl | apply wE rfl | apply wMs rfl rfl rfl rfl | refine wMs rfl rfl ?_ rfl ?_))) | (apply RetA.cellW rfl rfl rfl rfl rfl; (repeat' (first | exact rfl | exact wE rfl rfl | exact wNV rfl | exact wLV rfl | exact wMs rfl rfl rfl rfl rfl | exact wCv rfl rfl | exact wCv' rfl rfl | exact wNil rfl rfl | exact wF rfl (LeC.fl _) | exact wF rfl (LeC.refl _) | apply wV5 rfl | apply wCv rfl | apply wCv' rfl | apply wE rfl | apply wMs rfl rfl rfl rfl | refine wMs rfl rfl ?_ rfl ?_))))) | exact retN))
theorem orchFail_c : Pure env.P 79 [(intV' 0).cv, .v (.string sFail), .sl 5 (([] : List V).map V.cv)] [nilV.cv, nilV.cv, .v (.int .i64 34)] := by
  refine Pure.go (E := env) Try.func79 rfl rfl rfl (Nat.le_of_ble_eq_true rfl) (Nat.le_of_ble_eq_true rfl) ?_; rintro ⟨w0, T0, L0, n, r0, hn0, hT0⟩ hn hT hU; obtain rfl : n = _ := hn
  have t1 : (sFail.toList == sRuns.toList) = false := by simp only [ByteArray.toList_eq]; rfl
  have t2 : (sFail.toList == sRun.toList) = false := by simp only [ByteArray.toList_eq]; rfl
  have t3 : (sFail.toList == sFail.toList) = true := by simp only [ByteArray.toList_eq]; rfl
  have hr := orchRight_c (intV' 0)
  have h1 := clean_c (intV' 0) (by kernel_rfl)
  rw [show cleanS (intV' 0) = intV' 0 by kernel_rfl] at h1
  (repeat' (first | refine CQ.seq ?_ | refine CQ.block ?_ | ((first | apply CQ.rT hU | apply CQ.rD hU); (· (repeat (first | exact RunL.nil | (apply RunL.op; (first | ((first | apply sv | (apply gv; (· rfl); (· rfl)) | (apply gvB; (· rfl); (· rfl); (· assumption))); (first | exact .callP rfl rfl ta (hr) | exact .callP rfl rfl ta (h1) | exact .callP rfl rfl ta (failing_c) | exact vv)) | exact gn rfl rfl rfl | exact gnU rfl rfl | exact gnB rfl rfl (by assumption) rfl | exact so oo | exact gR rfl rfl oo | exact so rr | exact gR rfl rfl rr | exact gRB rfl rfl (by assumption) oo | exact gRB rfl rfl (by assumption) rr))))); (· kernel_rfl); clear hU; intro hU) | refine CQ.condT rfl ?_ | refine CQ.condF rfl ?_ | refine CQ.condT (hbl ‹_›) ?_ | refine CQ.condF (hbl ‹_›) ?_ | refine CQ.ret ?_ | refine CQ.skip ?_ | refine CQ.exit ?_ | (apply CQ.cond rfl <;> intro hb)))
  (repeat' (first | (apply retC; (first | (apply RetA.tmp; (repeat' (first | exact rfl | exact wE rfl rfl | exact wNV rfl | exact wLV rfl | exact wMs rfl rfl rfl rfl rfl | exact wCv rfl rfl | exact wCv' rfl rfl | exact wNil rfl rfl | exact wF rfl (LeC.fl _) | exact wF rfl (LeC.refl _) | apply wV5 rfl | apply wCv rfl | apply wCv' rfl | apply wE rfl | apply wMs rfl rfl rfl rfl | refine wMs rfl rfl ?_ rfl ?_))) | (apply RetA.cellS rfl rfl rfl rfl rfl; (repeat' (first | exact rfl | exact wE rfl rfl | exact wNV rfl | exact wLV rfl | exact wMs rfl rfl rfl rfl rfl | exact wCv rfl rfl | exact wCv' rfl rfl | exact wNil rfl rfl | exact wF rfl (LeC.fl _) | exact wF rfl (LeC.refl _) | apply wV5 rfl | apply wCv rfl | apply wCv' rfl | apply wE rfl | apply wMs rfl rfl rfl rfl | refine wMs rfl rfl ?_ rfl ?_))) | (apply RetA.cellW rfl rfl rfl rfl rfl; (repeat' (first | exact rfl | exact wE rfl rfl | exact wNV rfl | exact wLV rfl | exact wMs rfl rfl rfl rfl rfl | exact wCv rfl rfl | exact wCv' rfl rfl | exact wNil rfl rfl | exact wF rfl (LeC.fl _) | exact wF rfl (LeC.refl _) | apply wV5 rfl | apply wCv rfl | apply wCv' rfl | apply wE rfl | apply wMs rfl rfl rfl rfl | refine wMs rfl rfl ?_ rfl ?_))))) | exact retN))
end Go.Proofs.Ytbjcckjhfjhicaa
