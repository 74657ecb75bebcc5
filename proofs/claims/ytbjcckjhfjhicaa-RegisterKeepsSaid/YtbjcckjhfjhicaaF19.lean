/- Walks: the register's law of what is kept. -/
import Derived.Test.YtbjcckjhfjhicaaF17
namespace Go.Proofs.Ytbjcckjhfjhicaa
open Go Go.AM
set_option linter.unusedVariables false
set_option maxHeartbeats 4000000
set_option maxRecDepth 100000
set_option linter.unusedSimpArgs false

/-- One element of a list, sliced out. -/
theorem slV1 {E : Env} {m : Nat → Option Ob} {ev : Operand → AV} {t : TypeId} {x o1 o2 : Operand} {l : List V} {e k : Nat} {n1 n2 : Int} {y : V} {d de : TD} (hy : l[k]? = some y) (h1 : n1 = k) (h2 : n2 = k + 1) (hx : ev x = .c (.sl 5 (l.map V.cv)))
    (ht : E.Ty t = some d) (hd : d.desc = .slice e) (he : E.Ty e = some de) (hs : de.sz = 5) (e1 : ev o1 = .c (.v (.int .i64 n1))) (e2 : ev o2 = .c (.v (.int .i64 n2))) :
    StepV E m ev (.slice t x (some o1) (some o2) none) (.c (.sl 5 ([y].map V.cv))) [] := by
  have hk := (List.getElem?_eq_some_iff.1 hy).1
  have := StepV.slc (E := E) (m := m) (ev := ev) (t := t) (x := x) (lo := some o1) (hi := some o2) (l := k) (h := k + 1) hx ht hd he hs ⟨_, _, e1, by omega, by omega⟩ ⟨_, _, e2, by omega, by omega⟩ (by omega) (by simp; omega)
  have e3 : ((l.map V.cv).drop k).take (k + 1 - k) = [y].map V.cv := by
    rw [show k + 1 - k = 1 by omega, List.drop_eq_getElem_cons (by simpa using hk)]
    obtain ⟨_, rfl⟩ := List.getElem?_eq_some_iff.1 hy
    simp
  rwa [e3] at this

theorem check_set (y : V) : checkR sRegister sSet [y] = checkS y := by
  unfold checkR findS
  rw [methR_reg]
  simp only [ByteArray.toList_eq]
  show tailS rightR ⟨#[118]⟩ [y] = checkS y
  have ho : okS rightR ⟨#[118]⟩ [y] = true := rfl
  by_cases h : checkS y = 0
  · have hf : firstErr [y] = 0 := by unfold firstErr; simp [h]
    unfold tailS; rw [hf, ho, h]; rfl
  · have hf : firstErr [y] = checkS y := by unfold firstErr; simp [h]
    unfold tailS; rw [hf, if_pos (by simpa using h)]
theorem reg_set {s y : V} (hs : checkS s = 0) (hc : cleanS s = s) : regS s sSet [y] = if checkS y != 0 then (nilV, nilV, checkS y) else (cleanS y, s, 0) := by
  have e1 : (sSet.toList == sSet.toList) = true := by simp
  unfold regS
  rw [check_set, hs, e1, hc]
  cases h : (checkS y != 0) <;> rfl
theorem reg_get {s : V} (hs : checkS s = 0) (hc : cleanS s = s) : regS s sGet [] = (s, s, 0) := by
  have hck : checkR sRegister sGet [] = 0 := by
    unfold checkR findS
    rw [methR_reg]
    simp only [ByteArray.toList_eq]
    rfl
  have e1 : (sGet.toList == sSet.toList) = false := by simp only [ByteArray.toList_eq]; rfl
  have e2 : (sGet.toList == sGet.toList) = true := by simp
  unfold regS
  rw [hck, hs, e1, e2, hc, hc]
  rfl

theorem registerKeeps_c (l : List V) : Pure env.P 14 [.sl 5 (l.map V.cv)] [.v (.bool true)] := by
  refine Pure.fact 0 rfl ⟨_, Try.func14, rfl, rfl⟩ (fun _ _ _ h => vl_len h) ?_; intro hlen; refine Pure.go (E := env) Try.func14 rfl rfl rfl (Nat.le_of_ble_eq_true rfl) (Nat.le_of_ble_eq_true rfl) ?_; rintro ⟨w0, T0, L0, n, r0, hn0, hT0⟩ hn hT hU; obtain rfl : n = _ := hn
  have hkn := knownReg_c
  have h2 := lights_c l
  cases hl : lightsS l
  · rw [hl] at h2
    (repeat' (first | refine CQ.seq ?_ | refine CQ.block ?_ | ((first | apply CQ.rT hU | apply CQ.rD hU); (· (repeat (first | exact RunL.nil | (apply RunL.op; (first | ((first | apply sv | (apply gv; (· rfl); (· rfl)) | (apply gvB; (· rfl); (· rfl); (· assumption))); (first | exact .callP rfl rfl ta (hkn) | exact .callP rfl rfl ta (h2) | exact vv)) | exact gn rfl rfl rfl | exact gnU rfl rfl | exact gnB rfl rfl (by assumption) rfl | exact so oo))))); (· kernel_rfl); clear hU; intro hU) | refine CQ.condT rfl ?_ | refine CQ.condF rfl ?_ | refine CQ.condT (hbl ‹_›) ?_ | refine CQ.condF (hbl ‹_›) ?_ | refine CQ.ret ?_ | refine CQ.skip ?_ | refine CQ.exit ?_ | (apply CQ.cond rfl <;> intro hb)))
    (repeat' (first | (apply retC; (first | (apply RetA.tmp; (repeat' (first | exact rfl | exact wE rfl rfl | exact wNV rfl | exact wLV rfl | exact wMs rfl rfl rfl rfl rfl | exact wCv rfl rfl | exact wCv' rfl rfl | exact wNil rfl rfl | exact wF rfl (LeC.fl _) | exact wF rfl (LeC.refl _) | apply wV5 rfl | apply wCv rfl | apply wCv' rfl | apply wE rfl | apply wMs rfl rfl rfl rfl | refine wMs rfl rfl ?_ rfl ?_))) | (apply RetA.cellS rfl rfl rfl rfl rfl; (repeat' (first | exact rfl | exact wE rfl rfl | exact wNV rfl | exact wLV rfl | exact wMs rfl rfl rfl rfl rfl | exact wCv rfl rfl | exact wCv' rfl rfl | exact wNil rfl rfl | exact wF rfl (LeC.fl _) | exact wF rfl (LeC.refl _) | apply wV5 rfl | apply wCv rfl | apply wCv' rfl | apply wE rfl | apply wMs rfl rfl rfl rfl | refine wMs rfl rfl ?_ rfl ?_))) | (apply RetA.cellW rfl rfl rfl rfl rfl; (repeat' (first | exact rfl | exact wE rfl rfl | exact wNV rfl | exact wLV rfl | exact wMs rfl rfl rfl rfl rfl | exact wCv rfl rfl | exact wCv' rfl rfl | exact wNil rfl rfl | exact wF rfl (LeC.fl _) | exact wF rfl (LeC.refl _) | apply wV5 rfl | apply wCv rfl | apply wCv' rfl | apply wE rfl | apply wMs rfl rfl rfl rfl | refine wMs rfl rfl ?_ rfl ?_))))) | exact retN))
  rw [hl] at h2
  (repeat' (first | refine CQ.seq ?_ | refine CQ.block ?_ | ((first | apply CQ.rT hU | apply CQ.rD hU); (· (repeat (first | exact RunL.nil | (apply RunL.op; (first | ((first | apply sv | (apply gv; (· rfl); (· rfl)) | (apply gvB; (· rfl); (· rfl); (· assumption))); (first | exact .callP rfl rfl ta (hkn) | exact .callP rfl rfl ta (h2) | exact vv)) | exact gn rfl rfl rfl | exact gnU rfl rfl | exact gnB rfl rfl (by assumption) rfl | exact so oo))))); (· kernel_rfl); clear hU; intro hU) | refine CQ.condT rfl ?_ | refine CQ.condF rfl ?_ | refine CQ.condT (hbl ‹_›) ?_ | refine CQ.condF (hbl ‹_›) ?_ | refine CQ.ret ?_ | refine CQ.skip ?_ | refine CQ.exit ?_ | (apply CQ.cond rfl <;> intro hb)))
  refine CQ.loop hT (fun x : Nat × V => ⟨mkT [(0, .c (.sl 5 (l.map V.cv))), (3, .loc 3 0), (4, .c (.v (.int .i64 x.1)))], mkM [(3, .box x.2.ca)]⟩) (fun x => x.1 ≤ l.length ∧ checkS x.2 = 0 ∧ cleanS x.2 = x.2) (fun x => l.length - x.1) (0, nilV) ⟨Nat.zero_le _, rfl, rfl⟩ ?_ ?_
  · (refine wkS ?_ ?_; (all_goals (repeat' (first | exact wkB | refine wkP ?_ ?_ | exact wkMB | refine wkMP rfl ?_ ?_ | exact wkOr rfl | exact wkB0 | refine wkBx ?_ ?_ | refine wkOa ?_ | exact wr rfl | exact wE rfl rfl | exact wNV rfl | exact wLV rfl | exact wMs rfl rfl rfl rfl rfl | exact wCv rfl rfl | exact wCv' rfl rfl | exact wNil rfl rfl | exact wF rfl (LeC.fl _) | apply wV5 rfl | apply wCv rfl | apply wCv' rfl | apply wE rfl | apply wMs rfl rfl rfl rfl | refine wMs rfl rfl ?_ rfl ?_))))
  clear hU
  rintro ⟨k, s⟩ ⟨hk, hs, hc⟩
  simp only at hk hs hc
  have hU : Fresh [3] ⟨mkT [(0, .c (.sl 5 (l.map V.cv))), (3, .loc 3 0), (4, .c (.v (.int .i64 k)))], mkM [(3, .box s.ca)]⟩ := by exact fr
  cases hb : decide ((k : Int) < (l.length : Int))
  · have h3 := regDo_c s sGet []
    rw [reg_get hs hc] at h3
    have h4 := same_c s s
    rw [sameS_refl] at h4
    (repeat' (first | refine CQ.seq ?_ | refine CQ.block ?_ | ((first | apply CQ.rT hU | apply CQ.rD hU); (· (repeat (first | exact RunL.nil | (apply RunL.op; (first | ((first | apply sv | (apply gv; (· rfl); (· rfl)) | (apply gvB; (· rfl); (· rfl); (· assumption))); (first | exact .callP rfl rfl ta (h3) | exact .callP rfl rfl ta (h4) | exact vv)) | exact gn rfl rfl rfl | exact gnU rfl rfl | exact gnB rfl rfl (by assumption) rfl | exact so oo))))); (· kernel_rfl); clear hU; intro hU) | refine CQ.condT rfl ?_ | refine CQ.condF rfl ?_ | refine CQ.condT (hbl ‹_›) ?_ | refine CQ.condF (hbl ‹_›) ?_ | refine CQ.ret ?_ | refine CQ.skip ?_ | refine CQ.exit ?_ | (apply CQ.cond rfl <;> intro hb)))
    (repeat' (first | (apply retC; (first | (apply RetA.tmp; (repeat' (first | exact rfl | exact wE rfl rfl | exact wNV rfl | exact wLV rfl | exact wMs rfl rfl rfl rfl rfl | exact wCv rfl rfl | exact wCv' rfl rfl | exact wNil rfl rfl | exact wF rfl (LeC.fl _) | exact wF rfl (LeC.refl _) | apply wV5 rfl | apply wCv rfl | apply wCv' rfl | apply wE rfl | apply wMs rfl rfl rfl rfl | refine wMs rfl rfl ?_ rfl ?_))) | (apply RetA.cellS rfl rfl rfl rfl rfl; (repeat' (first | exact rfl | exact wE rfl rfl | exact wNV rfl | exact wLV rfl | exact wMs rfl rfl rfl rfl rfl | exact wCv rfl rfl | exact wCv' rfl rfl | exact wNil rfl rfl | exact wF rfl (LeC.fl _) | exact wF rfl (LeC.refl _) | apply wV5 rfl | apply wCv rfl | apply wCv' rfl | apply wE rfl | apply wMs rfl rfl rfl rfl | refine wMs rfl rfl ?_ rfl ?_))) | (apply RetA.cellW rfl rfl rfl rfl rfl; (repeat' (first | exact rfl | exact wE rfl rfl | exact wNV rfl | exact wLV rfl | exact wMs rfl rfl rfl rfl rfl | exact wCv rfl rfl | exact wCv' rfl rfl | exact wNil rfl rfl | exact wF rfl (LeC.fl _) | exact wF rfl (LeC.refl _) | apply wV5 rfl | apply wCv rfl | apply wCv' rfl | apply wE rfl | apply wMs rfl rfl rfl rfl | refine wMs rfl rfl ?_ rfl ?_))))) | exact retN))
  have hk' : k < l.length := by simpa using hb
  have hy := List.getElem?_eq_getElem hk'
  generalize l[k] = y at hy
  have h3 := regDo_c s sSet [y]
  rw [reg_set hs hc] at h3
  have h4 := check1_c y
  have hw := wrapS hk' hlen
  cases h5 : (checkS y != 0)
  · have h5' : checkS y = 0 := by simpa using h5
    rw [h5] at h3
    have h6 := same_c s s
    have h7 := same_c (cleanS y) (cleanS y)
    rw [sameS_refl] at h6 h7
    have h8 := clean1_c y (check_small h5')
    (repeat' (first | refine CQ.seq ?_ | refine CQ.block ?_ | ((first | apply CQ.rT hU | apply CQ.rD hU); (· (repeat (first | exact RunL.nil | (apply RunL.op; (first | ((first | apply sv | (apply gv; (· rfl); (· rfl)) | (apply gvB; (· rfl); (· rfl); (· assumption))); (first | exact (slV1 hy rfl (by rw [hw]; rfl) rfl rfl rfl rfl rfl rfl rfl) | exact .callP rfl rfl ta (h3) | exact .callP rfl rfl ta (h4) | exact .callP rfl rfl ta (h6) | exact .callP rfl rfl ta (h7) | exact .callP rfl rfl ta (h8) | exact vv)) | exact gn rfl rfl rfl | exact gnU rfl rfl | exact gnB rfl rfl (by assumption) rfl | exact so oo))))); (· kernel_rfl); clear hU; intro hU) | refine CQ.condT rfl ?_ | refine CQ.condF rfl ?_ | refine CQ.condT (hbl ‹_›) ?_ | refine CQ.condF (hbl ‹_›) ?_ | refine CQ.ret ?_ | refine CQ.skip ?_ | refine CQ.exit ?_ | (apply CQ.cond rfl <;> intro hb)))
    refine ⟨(k + 1, cleanS y), ⟨hk', check_clean h5', cleanS_idem y⟩, by simp only; omega, ?_⟩
    (refine wkS ?_ ?_; (all_goals (repeat' (first | exact wkB | refine wkP ?_ ?_ | exact wkMB | refine wkMP rfl ?_ ?_ | exact wkOr rfl | exact wkB0 | refine wkBx ?_ ?_ | refine wkOa ?_ | exact wr rfl | exact wE rfl rfl | exact wNV rfl | exact wLV rfl | exact wMs rfl rfl rfl rfl rfl | exact wCv rfl rfl | exact wCv' rfl rfl | exact wNil rfl rfl | exact wF rfl (LeC.fl _) | apply wV5 rfl | apply wCv rfl | apply wCv' rfl | apply wE rfl | apply wMs rfl rfl rfl rfl | refine wMs rfl rfl ?_ rfl ?_))))
    rw [hw]
  · rw [h5] at h3
    have h6 := same_c nilV nilV
    rw [sameS_refl] at h6
    have e1 : (checkS y != checkS y) = false := by simp
    (repeat' (first | refine CQ.seq ?_ | refine CQ.block ?_ | ((first | apply CQ.rT hU | apply CQ.rD hU); (· (repeat (first | exact RunL.nil | (apply RunL.op; (first | ((first | apply sv | (apply gv; (· rfl); (· rfl)) | (apply gvB; (· rfl); (· rfl); (· assumption))); (first | exact (slV1 hy rfl (by rw [hw]; rfl) rfl rfl rfl rfl rfl rfl rfl) | exact .callP rfl rfl ta (h3) | exact .callP rfl rfl ta (h4) | exact .callP rfl rfl ta (h6) | exact vv)) | exact gn rfl rfl rfl | exact gnU rfl rfl | exact gnB rfl rfl (by assumption) rfl | exact so oo))))); (· kernel_rfl); clear hU; intro hU) | refine CQ.condT rfl ?_ | refine CQ.condF rfl ?_ | refine CQ.condT (hbl ‹_›) ?_ | refine CQ.condF (hbl ‹_›) ?_ | refine CQ.ret ?_ | refine CQ.skip ?_ | refine CQ.exit ?_ | (apply CQ.cond rfl <;> intro hb)))
    refine ⟨(k + 1, s), ⟨hk', hs, hc⟩, by simp only; omega, ?_⟩
    (refine wkS ?_ ?_; (all_goals (repeat' (first | exact wkB | refine wkP ?_ ?_ | exact wkMB | refine wkMP rfl ?_ ?_ | exact wkOr rfl | exact wkB0 | refine wkBx ?_ ?_ | refine wkOa ?_ | exact wr rfl | exact wE rfl rfl | exact wNV rfl | exact wLV rfl | exact wMs rfl rfl rfl rfl rfl | exact wCv rfl rfl | exact wCv' rfl rfl | exact wNil rfl rfl | exact wF rfl (LeC.fl _) | apply wV5 rfl | apply wCv rfl | apply wCv' rfl | apply wE rfl | apply wMs rfl rfl rfl rfl | refine wMs rfl rfl ?_ rfl ?_))))
    rw [hw]
end Go.Proofs.Ytbjcckjhfjhicaa
