/- Walks: the chapter's example of runs; the law of plans. -/
import Derived.Test.YtbjcckjhfjhicaaG19
namespace Go.Proofs.Ytbjcckjhfjhicaa
open Go Go.AM
set_option linter.unusedVariables false
set_option maxHeartbeats 4000000
set_option maxRecDepth 100000
set_option linter.unusedSimpArgs false

def sA : ByteArray := ⟨#[97]⟩
def stepK : V := .mk 4 0 0 ⟨#[]⟩ [textV sA, textV sGet, intV' 1]
theorem plan_known : planS [stepK] = ([(sA, sGet, [intV' 1])], 0) := by
  unfold planS
  have h : checkR sOrch sRun [stepK] = 0 := by
    rw [run_check [stepK] (fun x hx => by rw [List.mem_singleton.1 hx]; kernel_rfl)]
    show _ = _
    kernel_rfl
  rw [h]
  show _ = _
  kernel_rfl
theorem known13_c : Pure env.P 45 [] [.v (.bool true)] := by
  refine Pure.go (E := env) Try.func45 rfl rfl rfl (Nat.le_of_ble_eq_true rfl) (Nat.le_of_ble_eq_true rfl) ?_; rintro ⟨w0, T0, L0, n, r0, hn0, hT0⟩ hn hT hU; obtain rfl : n = _ := hn
  have h1 := text_c sA
  have h2 := text_c sGet
  have h3 := list_c [textV sA, textV sGet, intV' 1]
  have hp := planA_c [stepK]
  rw [plan_known] at hp
  have hr := orchRight_c (intV' 1)
  have e1 : (sA.toList == sA.toList) = true := by simp
  have e2 : (sGet.toList == sGet.toList) = true := by simp
  (repeat' (first | refine CQ.seq ?_ | refine CQ.block ?_ | ((first | apply CQ.rT hU | apply CQ.rD hU); (· (repeat (first | exact RunL.nil | (apply RunL.op; (first | ((first | apply sv | (apply gv; (· rfl); (· rfl)) | (apply gvB; (· rfl); (· rfl); (· assumption))); (first | exact .callP rfl rfl ta (h1) | exact .callP rfl rfl ta (h2) | exact .callP rfl rfl ta ((int_c 0)) | exact .callP rfl rfl ta ((int_c 1)) | exact .callP rfl rfl ta ((int_c 5)) | exact .callP rfl rfl ta (h3) | exact .callP rfl rfl ta (hp) | exact .callP rfl rfl ta (orchRun_c) | exact .callP rfl rfl ta (orchFail_c) | exact .callP rfl rfl ta (hr) | exact (lnG (G := GT) rfl rfl rfl) | exact vv)) | exact gn rfl rfl rfl | exact gnU rfl rfl | exact gnB rfl rfl (by assumption) rfl | exact so oo | exact gR rfl rfl oo | exact so rr | exact gR rfl rfl rr | exact gRB rfl rfl (by assumption) oo | exact gRB rfl rfl (by assumption) rr))))); (· kernel_rfl); clear hU; intro hU) | refine CQ.condT rfl ?_ | refine CQ.condF rfl ?_ | refine CQ.condT (hbl ‹_›) ?_ | refine CQ.condF (hbl ‹_›) ?_ | refine CQ.ret ?_ | refine CQ.skip ?_ | refine CQ.exit ?_ | (apply CQ.cond rfl <;> intro hb)))
  (repeat' (first | (apply retC; (first | (apply RetA.tmp; (repeat' (first | exact rfl | exact wE rfl rfl | exact wNV rfl | exact wLV rfl | exact wMs rfl rfl rfl rfl rfl | exact wCv rfl rfl | exact wCv' rfl rfl | exact wNil rfl rfl | exact wF rfl (LeC.fl _) | exact wF rfl (LeC.refl _) | apply wV5 rfl | apply wCv rfl | apply wCv' rfl | apply wE rfl | apply wMs rfl rfl rfl rfl | refine wMs rfl rfl ?_ rfl ?_))) | (apply RetA.cellS rfl rfl rfl rfl rfl; (repeat' (first | exact rfl | exact wE rfl rfl | exact wNV rfl | exact wLV rfl | exact wMs rfl rfl rfl rfl rfl | exact wCv rfl rfl | exact wCv' rfl rfl | exact wNil rfl rfl | exact wF rfl (LeC.fl _) | exact wF rfl (LeC.refl _) | apply wV5 rfl | apply wCv rfl | apply wCv' rfl | apply wE rfl | apply wMs rfl rfl rfl rfl | refine wMs rfl rfl ?_ rfl ?_))) | (apply RetA.cellW rfl rfl rfl rfl rfl; (repeat' (first | exact rfl | exact wE rfl rfl | exact wNV rfl | exact wLV rfl | exact wMs rfl rfl rfl rfl rfl | exact wCv rfl rfl | exact wCv' rfl rfl | exact wNil rfl rfl | exact wF rfl (LeC.fl _) | exact wF rfl (LeC.refl _) | apply wV5 rfl | apply wCv rfl | apply wCv' rfl | apply wE rfl | apply wMs rfl rfl rfl rfl | refine wMs rfl rfl ?_ rfl ?_))))) | exact retN))
end Go.Proofs.Ytbjcckjhfjhicaa
