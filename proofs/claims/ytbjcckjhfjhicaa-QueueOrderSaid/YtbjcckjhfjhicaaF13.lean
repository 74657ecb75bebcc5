/- Walks: the register. -/
import Derived.Test.YtbjcckjhfjhicaaP1
namespace Go.Proofs.Ytbjcckjhfjhicaa
open Go Go.AM
set_option linter.unusedVariables false
set_option maxHeartbeats 4000000
set_option maxRecDepth 100000
set_option linter.unusedSimpArgs false

def intV' (n : Int) : V := .mk 1 n 0 ⟨#[]⟩ []
def sSet : ByteArray := ⟨#[115, 101, 116]⟩
def sGet : ByteArray := ⟨#[103, 101, 116]⟩
def sCas : ByteArray := ⟨#[99, 97, 115]⟩

theorem great_small (n : Nat) : ∀ (v : V) (d : Int), v.nodes < n → greatS v d = false → smallS v = true := by
  induction n with
  | zero => intro v d h; omega
  | succ n ih =>
    intro v d hn h
    rw [smallS_eq]
    cases h4 : (v.kind == 4)
    · rfl
    have h3 : (v.kind == 3) = false := by simp at h4 ⊢; omega
    rw [greatS_eq, h3, h4, greatsS_eq] at h
    simp only [Bool.false_eq_true, if_false, if_true, Bool.or_eq_false_iff, decide_eq_false_iff_not] at h
    rw [if_pos rfl, Bool.and_eq_true, decide_eq_true_eq, smallsS_eq, List.all_eq_true]
    refine ⟨by omega, fun x hx => ih x (d - 1) (by have := V.nodes_lt hx; omega) ?_⟩
    have := List.any_eq_false.1 h.2 x hx
    simpa using this
theorem check_great {v : V} (h : checkS v = 0) : kindsS v = true ∧ greatS v 8 = false ∧ sizeS v ≤ 4096 := by
  unfold checkS at h
  split at h
  · cases h
  · rename_i h1
    split at h
    · cases h
    · rename_i h2; simp at h1 h2; exact ⟨h1, h2.1, by omega⟩
theorem check_small {v : V} (h : checkS v = 0) : smallS v = true := great_small _ v 8 (Nat.lt_succ_self _) (check_great h).2.1
theorem clean_small (n : Nat) : ∀ v : V, v.nodes < n → smallS v = true → smallS (cleanS v) = true := by
  induction n with
  | zero => intro v h; omega
  | succ n ih =>
    intro v hn h
    rw [cleanS_eq]
    repeat' split
    all_goals try rfl
    rename_i h4
    rw [smallS_eq, h4, if_pos rfl, Bool.and_eq_true, decide_eq_true_eq, smallsS_eq, List.all_eq_true] at h
    rw [smallS_eq]
    rw [if_pos (by rfl), Bool.and_eq_true]
    refine ⟨decide_eq_true (by simpa using h.1), ?_⟩
    rw [smallsS_eq, List.all_eq_true]
    intro x hx
    simp only [V.l_mk] at hx
    obtain ⟨y, hy, rfl⟩ := List.mem_map.1 hx
    exact ih y (by have := V.nodes_lt hy; omega) (h.2 y hy)
theorem cleanS_small {v : V} (h : smallS v = true) : smallS (cleanS v) = true := clean_small _ v (Nat.lt_succ_self _) h

theorem rightReg_c (v : V) : Pure env.P 57 [v.cv] [.v (.bool (checkS v == 0))] := by
  refine Pure.go (E := env) Try.func57 rfl rfl rfl (Nat.le_of_ble_eq_true rfl) (Nat.le_of_ble_eq_true rfl) ?_; rintro ⟨w0, T0, L0, n, r0, hn0, hT0⟩ hn hT hU; obtain rfl : n = _ := hn
  (repeat' (first | refine CQ.seq ?_ | refine CQ.block ?_ | ((first | apply CQ.rT hU | apply CQ.rD hU); (· (repeat (first | exact RunL.nil | (apply RunL.op; (first | ((first | apply sv | (apply gv; (· rfl); (· rfl)) | (apply gvB; (· rfl); (· rfl); (· assumption))); (first | exact .callP rfl rfl ta ((check_c v)) | exact vv)) | exact gn rfl rfl rfl | exact gnU rfl rfl | exact gnB rfl rfl (by assumption) rfl | exact so oo))))); (· kernel_rfl); clear hU; intro hU) | refine CQ.condT rfl ?_ | refine CQ.condF rfl ?_ | refine CQ.condT (hbl ‹_›) ?_ | refine CQ.condF (hbl ‹_›) ?_ | refine CQ.ret ?_ | refine CQ.skip ?_ | refine CQ.exit ?_ | (apply CQ.cond rfl <;> intro hb)))
  (repeat' (first | (apply retC; (first | (apply RetA.tmp; (repeat' (first | exact rfl | exact wE rfl rfl | exact wNV rfl | exact wLV rfl | exact wMs rfl rfl rfl rfl rfl | exact wCv rfl rfl | exact wCv' rfl rfl | exact wNil rfl rfl | exact wF rfl (LeC.fl _) | exact wF rfl (LeC.refl _) | apply wV5 rfl | apply wCv rfl | apply wCv' rfl | apply wE rfl | apply wMs rfl rfl rfl rfl | refine wMs rfl rfl ?_ rfl ?_))) | (apply RetA.cellS rfl rfl rfl rfl rfl; (repeat' (first | exact rfl | exact wE rfl rfl | exact wNV rfl | exact wLV rfl | exact wMs rfl rfl rfl rfl rfl | exact wCv rfl rfl | exact wCv' rfl rfl | exact wNil rfl rfl | exact wF rfl (LeC.fl _) | exact wF rfl (LeC.refl _) | apply wV5 rfl | apply wCv rfl | apply wCv' rfl | apply wE rfl | apply wMs rfl rfl rfl rfl | refine wMs rfl rfl ?_ rfl ?_))) | (apply RetA.cellW rfl rfl rfl rfl rfl; (repeat' (first | exact rfl | exact wE rfl rfl | exact wNV rfl | exact wLV rfl | exact wMs rfl rfl rfl rfl rfl | exact wCv rfl rfl | exact wCv' rfl rfl | exact wNil rfl rfl | exact wF rfl (LeC.fl _) | exact wF rfl (LeC.refl _) | apply wV5 rfl | apply wCv rfl | apply wCv' rfl | apply wE rfl | apply wMs rfl rfl rfl rfl | refine wMs rfl rfl ?_ rfl ?_))))) | exact retN))

theorem regSig {m : ByteArray} {l : List V} (h : checkR sRegister m l = 0) : (∀ x ∈ l, checkS x = 0) ∧ ((m = sCas ∧ l.length = 2) ∨ (m = sGet ∧ l.length = 0) ∨ (m = sSet ∧ l.length = 1)) := by
  obtain ⟨r, hf, hc, hs⟩ := check_of _ _ _ h
  refine ⟨hc, ?_⟩
  have e : methR sRegister = methRRegister := by
    unfold methR; simp only [ByteArray.toList_eq]; rfl
  rw [e] at hf
  have hm := List.mem_of_find?_eq_some hf
  have hn := List.find?_some hf
  have hn := str_eq hn
  simp only [methRRegister, List.mem_cons, List.not_mem_nil, or_false] at hm
  rcases hm with rfl | rfl | rfl
  · refine .inl ⟨hn.symm, ?_⟩
    rcases hs with ⟨h1, _⟩ | ⟨_, h2, _⟩
    · cases h1
    · exact h2.symm
  · refine .inr (.inl ⟨hn.symm, ?_⟩)
    rcases hs with ⟨h1, _⟩ | ⟨_, h2, _⟩
    · cases h1
    · exact h2.symm
  · refine .inr (.inr ⟨hn.symm, ?_⟩)
    rcases hs with ⟨h1, _⟩ | ⟨_, h2, _⟩
    · cases h1
    · exact h2.symm

/-- What the register does. -/
def regS (s : V) (m : ByteArray) (l : List V) : V × V × Int :=
  if !(checkS s == 0) then (nilV, nilV, 31) else
  if checkR sRegister m l != 0 then (nilV, nilV, checkR sRegister m l) else
  if m.toList == sSet.toList then (cleanS (l.getD 0 nilV), cleanS s, 0) else
  if m.toList == sGet.toList then (cleanS s, cleanS (cleanS s), 0) else
  if equalS (cleanS s) (l.getD 0 nilV) then (cleanS (l.getD 1 nilV), intV' 1, 0) else (cleanS s, intV' 0, 0)

theorem regDo_c (s : V) (m : ByteArray) (l : List V) : Pure env.P 53 [s.cv, .v (.string m), .sl 5 (l.map V.cv)] [(regS s m l).1.cv, (regS s m l).2.1.cv, .v (.int .i64 (regS s m l).2.2)] := by
  refine Pure.go (E := env) Try.func53 rfl rfl rfl (Nat.le_of_ble_eq_true rfl) (Nat.le_of_ble_eq_true rfl) ?_; rintro ⟨w0, T0, L0, n, r0, hn0, hT0⟩ hn hT hU; obtain rfl : n = _ := hn
  have hr := rightReg_c s
  have hc := checkA_c sRegister m l
  rw [checkA_eq] at hc
  unfold regS
  cases h0 : !(checkS s == 0)
  rotate_left
  · simp only [Bool.not_eq_true'] at h0
    rw [h0] at hr
    (repeat' (first | refine CQ.seq ?_ | refine CQ.block ?_ | ((first | apply CQ.rT hU | apply CQ.rD hU); (· (repeat (first | exact RunL.nil | (apply RunL.op; (first | ((first | apply sv | (apply gv; (· rfl); (· rfl)) | (apply gvB; (· rfl); (· rfl); (· assumption))); (first | exact .callP rfl rfl ta (hr) | exact vv)) | exact gn rfl rfl rfl | exact gnU rfl rfl | exact gnB rfl rfl (by assumption) rfl | exact so oo))))); (· kernel_rfl); clear hU; intro hU) | refine CQ.condT rfl ?_ | refine CQ.condF rfl ?_ | refine CQ.condT (hbl ‹_›) ?_ | refine CQ.condF (hbl ‹_›) ?_ | refine CQ.ret ?_ | refine CQ.skip ?_ | refine CQ.exit ?_ | (apply CQ.cond rfl <;> intro hb)))
    (repeat' (first | (apply retC; (first | (apply RetA.tmp; (repeat' (first | exact rfl | exact wE rfl rfl | exact wNV rfl | exact wLV rfl | exact wMs rfl rfl rfl rfl rfl | exact wCv rfl rfl | exact wCv' rfl rfl | exact wNil rfl rfl | exact wF rfl (LeC.fl _) | exact wF rfl (LeC.refl _) | apply wV5 rfl | apply wCv rfl | apply wCv' rfl | apply wE rfl | apply wMs rfl rfl rfl rfl | refine wMs rfl rfl ?_ rfl ?_))) | (apply RetA.cellS rfl rfl rfl rfl rfl; (repeat' (first | exact rfl | exact wE rfl rfl | exact wNV rfl | exact wLV rfl | exact wMs rfl rfl rfl rfl rfl | exact wCv rfl rfl | exact wCv' rfl rfl | exact wNil rfl rfl | exact wF rfl (LeC.fl _) | exact wF rfl (LeC.refl _) | apply wV5 rfl | apply wCv rfl | apply wCv' rfl | apply wE rfl | apply wMs rfl rfl rfl rfl | refine wMs rfl rfl ?_ rfl ?_))) | (apply RetA.cellW rfl rfl rfl rfl rfl; (repeat' (first | exact rfl | exact wE rfl rfl | exact wNV rfl | exact wLV rfl | exact wMs rfl rfl rfl rfl rfl | exact wCv rfl rfl | exact wCv' rfl rfl | exact wNil rfl rfl | exact wF rfl (LeC.fl _) | exact wF rfl (LeC.refl _) | apply wV5 rfl | apply wCv rfl | apply wCv' rfl | apply wE rfl | apply wMs rfl rfl rfl rfl | refine wMs rfl rfl ?_ rfl ?_))))) | exact retN))
  simp only [Bool.not_eq_false'] at h0
  rw [h0] at hr
  have hs0 : smallS s = true := check_small (by simpa using h0)
  cases h1 : (checkR sRegister m l != 0)
  rotate_left
  · (repeat' (first | refine CQ.seq ?_ | refine CQ.block ?_ | ((first | apply CQ.rT hU | apply CQ.rD hU); (· (repeat (first | exact RunL.nil | (apply RunL.op; (first | ((first | apply sv | (apply gv; (· rfl); (· rfl)) | (apply gvB; (· rfl); (· rfl); (· assumption))); (first | exact .callP rfl rfl ta (hr) | exact .callP rfl rfl ta (hc) | exact vv)) | exact gn rfl rfl rfl | exact gnU rfl rfl | exact gnB rfl rfl (by assumption) rfl | exact so oo))))); (· kernel_rfl); clear hU; intro hU) | refine CQ.condT rfl ?_ | refine CQ.condF rfl ?_ | refine CQ.condT (hbl ‹_›) ?_ | refine CQ.condF (hbl ‹_›) ?_ | refine CQ.ret ?_ | refine CQ.skip ?_ | refine CQ.exit ?_ | (apply CQ.cond rfl <;> intro hb)))
    (repeat' (first | (apply retC; (first | (apply RetA.tmp; (repeat' (first | exact rfl | exact wE rfl rfl | exact wNV rfl | exact wLV rfl | exact wMs rfl rfl rfl rfl rfl | exact wCv rfl rfl | exact wCv' rfl rfl | exact wNil rfl rfl | exact wF rfl (LeC.fl _) | exact wF rfl (LeC.refl _) | apply wV5 rfl | apply wCv rfl | apply wCv' rfl | apply wE rfl | apply wMs rfl rfl rfl rfl | refine wMs rfl rfl ?_ rfl ?_))) | (apply RetA.cellS rfl rfl rfl rfl rfl; (repeat' (first | exact rfl | exact wE rfl rfl | exact wNV rfl | exact wLV rfl | exact wMs rfl rfl rfl rfl rfl | exact wCv rfl rfl | exact wCv' rfl rfl | exact wNil rfl rfl | exact wF rfl (LeC.fl _) | exact wF rfl (LeC.refl _) | apply wV5 rfl | apply wCv rfl | apply wCv' rfl | apply wE rfl | apply wMs rfl rfl rfl rfl | refine wMs rfl rfl ?_ rfl ?_))) | (apply RetA.cellW rfl rfl rfl rfl rfl; (repeat' (first | exact rfl | exact wE rfl rfl | exact wNV rfl | exact wLV rfl | exact wMs rfl rfl rfl rfl rfl | exact wCv rfl rfl | exact wCv' rfl rfl | exact wNil rfl rfl | exact wF rfl (LeC.fl _) | exact wF rfl (LeC.refl _) | apply wV5 rfl | apply wCv rfl | apply wCv' rfl | apply wE rfl | apply wMs rfl rfl rfl rfl | refine wMs rfl rfl ?_ rfl ?_))))) | exact retN))
  obtain ⟨hck, hsig⟩ := regSig (m := m) (l := l) (by simpa using h1)
  have hcs := clean_c s hs0
  cases h2 : (m.toList == sSet.toList)
  rotate_left
  · have hl : l.length = 1 := by
      rcases hsig with ⟨rfl, _⟩ | ⟨rfl, _⟩ | ⟨_, h⟩
      · simp only [ByteArray.toList_eq] at h2; cases h2
      · simp only [ByteArray.toList_eq] at h2; cases h2
      · exact h
    have hy0 := List.getElem?_eq_getElem (show 0 < l.length by omega)
    have hc0 := clean_c l[0] (check_small (hck _ (List.getElem_mem _)))
    (repeat' (first | refine CQ.seq ?_ | refine CQ.block ?_ | ((first | apply CQ.rT hU | apply CQ.rD hU); (· (repeat (first | exact RunL.nil | (apply RunL.op; (first | ((first | apply sv | (apply gv; (· rfl); (· rfl)) | (apply gvB; (· rfl); (· rfl); (· assumption))); (first | exact .callP rfl rfl ta (hr) | exact .callP rfl rfl ta (hc) | exact .callP rfl rfl ta (hcs) | exact .callP rfl rfl ta (hc0) | exact vv)) | exact gn rfl rfl rfl | exact gnU rfl rfl | exact gnB rfl rfl (by assumption) rfl | exact so oo))))); (· kernel_rfl); clear hU; intro hU) | refine CQ.condT rfl ?_ | refine CQ.condF rfl ?_ | refine CQ.condT (hbl ‹_›) ?_ | refine CQ.condF (hbl ‹_›) ?_ | refine CQ.ret ?_ | refine CQ.skip ?_ | refine CQ.exit ?_ | (apply CQ.cond rfl <;> intro hb)))
    simp only [Bool.false_eq_true, if_false, if_true, getD_of hy0]
    (repeat' (first | (apply retC; (first | (apply RetA.tmp; (repeat' (first | exact rfl | exact wE rfl rfl | exact wNV rfl | exact wLV rfl | exact wMs rfl rfl rfl rfl rfl | exact wCv rfl rfl | exact wCv' rfl rfl | exact wNil rfl rfl | exact wF rfl (LeC.fl _) | exact wF rfl (LeC.refl _) | apply wV5 rfl | apply wCv rfl | apply wCv' rfl | apply wE rfl | apply wMs rfl rfl rfl rfl | refine wMs rfl rfl ?_ rfl ?_))) | (apply RetA.cellS rfl rfl rfl rfl rfl; (repeat' (first | exact rfl | exact wE rfl rfl | exact wNV rfl | exact wLV rfl | exact wMs rfl rfl rfl rfl rfl | exact wCv rfl rfl | exact wCv' rfl rfl | exact wNil rfl rfl | exact wF rfl (LeC.fl _) | exact wF rfl (LeC.refl _) | apply wV5 rfl | apply wCv rfl | apply wCv' rfl | apply wE rfl | apply wMs rfl rfl rfl rfl | refine wMs rfl rfl ?_ rfl ?_))) | (apply RetA.cellW rfl rfl rfl rfl rfl; (repeat' (first | exact rfl | exact wE rfl rfl | exact wNV rfl | exact wLV rfl | exact wMs rfl rfl rfl rfl rfl | exact wCv rfl rfl | exact wCv' rfl rfl | exact wNil rfl rfl | exact wF rfl (LeC.fl _) | exact wF rfl (LeC.refl _) | apply wV5 rfl | apply wCv rfl | apply wCv' rfl | apply wE rfl | apply wMs rfl rfl rfl rfl | refine wMs rfl rfl ?_ rfl ?_))))) | exact retN))
  cases h3 : (m.toList == sGet.toList)
  rotate_left
  · have hcc := clone_c (cleanS s) (cleanS_small hs0)
    (repeat' (first | refine CQ.seq ?_ | refine CQ.block ?_ | ((first | apply CQ.rT hU | apply CQ.rD hU); (· (repeat (first | exact RunL.nil | (apply RunL.op; (first | ((first | apply sv | (apply gv; (· rfl); (· rfl)) | (apply gvB; (· rfl); (· rfl); (· assumption))); (first | exact .callP rfl rfl ta (hr) | exact .callP rfl rfl ta (hc) | exact .callP rfl rfl ta (hcs) | exact .callP rfl rfl ta (hcc) | exact vv)) | exact gn rfl rfl rfl | exact gnU rfl rfl | exact gnB rfl rfl (by assumption) rfl | exact so oo))))); (· kernel_rfl); clear hU; intro hU) | refine CQ.condT rfl ?_ | refine CQ.condF rfl ?_ | refine CQ.condT (hbl ‹_›) ?_ | refine CQ.condF (hbl ‹_›) ?_ | refine CQ.ret ?_ | refine CQ.skip ?_ | refine CQ.exit ?_ | (apply CQ.cond rfl <;> intro hb)))
    (repeat' (first | (apply retC; (first | (apply RetA.tmp; (repeat' (first | exact rfl | exact wE rfl rfl | exact wNV rfl | exact wLV rfl | exact wMs rfl rfl rfl rfl rfl | exact wCv rfl rfl | exact wCv' rfl rfl | exact wNil rfl rfl | exact wF rfl (LeC.fl _) | exact wF rfl (LeC.refl _) | apply wV5 rfl | apply wCv rfl | apply wCv' rfl | apply wE rfl | apply wMs rfl rfl rfl rfl | refine wMs rfl rfl ?_ rfl ?_))) | (apply RetA.cellS rfl rfl rfl rfl rfl; (repeat' (first | exact rfl | exact wE rfl rfl | exact wNV rfl | exact wLV rfl | exact wMs rfl rfl rfl rfl rfl | exact wCv rfl rfl | exact wCv' rfl rfl | exact wNil rfl rfl | exact wF rfl (LeC.fl _) | exact wF rfl (LeC.refl _) | apply wV5 rfl | apply wCv rfl | apply wCv' rfl | apply wE rfl | apply wMs rfl rfl rfl rfl | refine wMs rfl rfl ?_ rfl ?_))) | (apply RetA.cellW rfl rfl rfl rfl rfl; (repeat' (first | exact rfl | exact wE rfl rfl | exact wNV rfl | exact wLV rfl | exact wMs rfl rfl rfl rfl rfl | exact wCv rfl rfl | exact wCv' rfl rfl | exact wNil rfl rfl | exact wF rfl (LeC.fl _) | exact wF rfl (LeC.refl _) | apply wV5 rfl | apply wCv rfl | apply wCv' rfl | apply wE rfl | apply wMs rfl rfl rfl rfl | refine wMs rfl rfl ?_ rfl ?_))))) | exact retN))
  have hl : l.length = 2 := by
    rcases hsig with ⟨_, h⟩ | ⟨rfl, _⟩ | ⟨rfl, _⟩
    · exact h
    · simp only [ByteArray.toList_eq] at h3; simp at h3
    · simp only [ByteArray.toList_eq] at h2; simp at h2
  have hy0 := List.getElem?_eq_getElem (show 0 < l.length by omega)
  have hy1 := List.getElem?_eq_getElem (show 1 < l.length by omega)
  have hc1 := clean_c l[1] (check_small (hck _ (List.getElem_mem _)))
  have he := equal_c (cleanS s) l[0]
  simp only [Bool.false_eq_true, if_false, if_true, getD_of hy0, getD_of hy1]
  cases h4 : equalS (cleanS s) l[0]
  all_goals rw [h4] at he
  all_goals (repeat' (first | refine CQ.seq ?_ | refine CQ.block ?_ | ((first | apply CQ.rT hU | apply CQ.rD hU); (· (repeat (first | exact RunL.nil | (apply RunL.op; (first | ((first | apply sv | (apply gv; (· rfl); (· rfl)) | (apply gvB; (· rfl); (· rfl); (· assumption))); (first | exact .callP rfl rfl ta (hr) | exact .callP rfl rfl ta (hc) | exact .callP rfl rfl ta (hcs) | exact .callP rfl rfl ta (hc1) | exact .callP rfl rfl ta (he) | exact vv)) | exact gn rfl rfl rfl | exact gnU rfl rfl | exact gnB rfl rfl (by assumption) rfl | exact so oo))))); (· kernel_rfl); clear hU; intro hU) | refine CQ.condT rfl ?_ | refine CQ.condF rfl ?_ | refine CQ.condT (hbl ‹_›) ?_ | refine CQ.condF (hbl ‹_›) ?_ | refine CQ.ret ?_ | refine CQ.skip ?_ | refine CQ.exit ?_ | (apply CQ.cond rfl <;> intro hb)))
  all_goals (repeat' (first | (apply retC; (first | (apply RetA.tmp; (repeat' (first | exact rfl | exact wE rfl rfl | exact wNV rfl | exact wLV rfl | exact wMs rfl rfl rfl rfl rfl | exact wCv rfl rfl | exact wCv' rfl rfl | exact wNil rfl rfl | exact wF rfl (LeC.fl _) | exact wF rfl (LeC.refl _) | apply wV5 rfl | apply wCv rfl | apply wCv' rfl | apply wE rfl | apply wMs rfl rfl rfl rfl | refine wMs rfl rfl ?_ rfl ?_))) | (apply RetA.cellS rfl rfl rfl rfl rfl; (repeat' (first | exact rfl | exact wE rfl rfl | exact wNV rfl | exact wLV rfl | exact wMs rfl rfl rfl rfl rfl | exact wCv rfl rfl | exact wCv' rfl rfl | exact wNil rfl rfl | exact wF rfl (LeC.fl _) | exact wF rfl (LeC.refl _) | apply wV5 rfl | apply wCv rfl | apply wCv' rfl | apply wE rfl | apply wMs rfl rfl rfl rfl | refine wMs rfl rfl ?_ rfl ?_))) | (apply RetA.cellW rfl rfl rfl rfl rfl; (repeat' (first | exact rfl | exact wE rfl rfl | exact wNV rfl | exact wLV rfl | exact wMs rfl rfl rfl rfl rfl | exact wCv rfl rfl | exact wCv' rfl rfl | exact wNil rfl rfl | exact wF rfl (LeC.fl _) | exact wF rfl (LeC.refl _) | apply wV5 rfl | apply wCv rfl | apply wCv' rfl | apply wE rfl | apply wMs rfl rfl rfl rfl | refine wMs rfl rfl ?_ rfl ?_))))) | exact retN))
end Go.Proofs.Ytbjcckjhfjhicaa
