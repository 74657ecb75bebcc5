/- Walks: the queue's laws. -/
import Derived.Test.YtbjcckjhfjhicaaG10
import Derived.Test.YtbjcckjhfjhicaaP3
import Derived.Test.YtbjcckjhfjhicaaA
namespace Go.Proofs.Ytbjcckjhfjhicaa
open Go Go.AM
set_option linter.unusedVariables false
set_option maxHeartbeats 4000000
set_option maxRecDepth 100000
set_option linter.unusedSimpArgs false

/-! sizes, with no wrapping -/
def sumS (l : List V) : Int := (l.map sizeS).sum
theorem sizes_sum (l : List V) (B : Int) : ∀ n : Int, (∀ x ∈ l, 1 ≤ sizeS x ∧ sizeS x ≤ B) → 0 ≤ n → n + l.length * B ≤ 4611686018427387904 → sizesS l n = n + sumS l ∧ (l.length : Int) ≤ sumS l ∧ sumS l ≤ l.length * B := by
  induction l with
  | nil => intro n _ _ _; simp [sizesS, sumS]
  | cons x l ih =>
    intro n hb h0 hn
    obtain ⟨hx1, hx2⟩ := hb x (by simp)
    simp only [List.length_cons, Int.natCast_add, Int.natCast_one, Int.add_mul, Int.one_mul] at hn ⊢
    have hlB : 0 ≤ (l.length : Int) * B := Int.mul_nonneg (by omega) (by omega)
    have := ih (n + sizeS x) (fun y hy => hb y (by simp [hy])) (by omega) (by omega)
    rw [sizesS, wrap_id (by omega) (by omega)]
    simp only [sumS, List.map_cons, List.sum_cons] at this ⊢
    omega
theorem size_bd (n : Nat) : ∀ (v : V) (d : Nat), v.nodes < n → d ≤ 8 → greatS v d = false → 1 ≤ sizeS v ∧ sizeS v ≤ 300 * 65 ^ d := by
  induction n with
  | zero => intro v d h; omega
  | succ n ih =>
    intro v d hn hd h
    have hp : (1 : Int) ≤ 65 ^ d := by have : 0 < 65 ^ d := Nat.pow_pos (by decide); exact_mod_cast this
    have h8 : (65 : Int) ^ d ≤ 65 ^ 8 := by have : 65 ^ d ≤ 65 ^ 8 := Nat.pow_le_pow_right (by decide) hd; exact_mod_cast this
    have h8' : (65 : Int) ^ 8 = 318644812890625 := rfl
    rw [sizeS_eq]
    rw [greatS_eq] at h
    split
    · omega
    rename_i h12
    split
    · rename_i h3
      rw [if_pos h3] at h
      simp only [decide_eq_false_iff_not] at h
      rw [wrap_id (by omega) (by omega)]; omega
    rename_i h3
    rw [if_neg h3] at h
    split
    · rename_i h4
      rw [if_pos h4, greatsS_eq] at h
      simp only [Bool.or_eq_false_iff, decide_eq_false_iff_not] at h
      obtain ⟨⟨hl, hd1⟩, ha⟩ := h
      match d, hd1, hd, hp, h8, ha with
      | d + 1, _, hd, hp, h8, ha =>
      have hB : ∀ x ∈ v.l, 1 ≤ sizeS x ∧ sizeS x ≤ 300 * 65 ^ d := fun x hx => ih x d (by have := V.nodes_lt hx; omega) (by omega) (by
        have := List.any_eq_false.1 ha x hx
        rw [show (((d + 1 : Nat) : Int) - 1) = (d : Int) by omega] at this
        simpa using this)
      have hs := sizes_sum v.l (300 * 65 ^ d) 2 hB (by omega) (by rw [Int.pow_succ] at h8; have : (v.l.length : Int) * (300 * 65 ^ d) ≤ 64 * (300 * 65 ^ d) := Int.mul_le_mul_of_nonneg_right (by omega) (by omega); omega)
      have : (v.l.length : Int) * (300 * 65 ^ d) ≤ 64 * (300 * 65 ^ d) := Int.mul_le_mul_of_nonneg_right (by omega) (by have : 0 < 65 ^ d := Nat.pow_pos (by decide); have : (0 : Int) < 65 ^ d := by exact_mod_cast this
                                                                                                                        omega)
      rw [Int.pow_succ] at hp ⊢
      omega
    · omega
theorem size_great {v : V} {d : Nat} (hd : d ≤ 8) (h : greatS v d = false) : 1 ≤ sizeS v ∧ sizeS v ≤ 300 * 65 ^ d := size_bd _ v d (Nat.lt_succ_self _) hd h
theorem sizes_list {l : List V} (h : greatS (listV l) 8 = false) : sizeS (listV l) = 2 + sumS l ∧ (l.length : Int) ≤ sumS l := by
  rw [greatS_eq] at h
  have h : (decide ((l.length : Int) > 64) || decide ((8 : Int) < 1) || greatsS l 7) = false := h
  simp only [Bool.or_eq_false_iff, decide_eq_false_iff_not, greatsS_eq] at h
  have hB : ∀ x ∈ l, 1 ≤ sizeS x ∧ sizeS x ≤ 300 * 65 ^ 7 := fun x hx => size_great (d := 7) (by decide) (by have := List.any_eq_false.1 h.2 x hx; simpa using this)
  have h7 : (65 : Int) ^ 7 = 4902227890625 := rfl
  rw [h7] at hB
  have := sizes_sum l (300 * 4902227890625) 2 hB (by decide) (by omega)
  rw [sizeS_eq]
  exact ⟨this.1, this.2.1⟩
/-- A row without its first is right when the row is. -/
theorem check_tail {x : V} {l : List V} (h : checkS (listV (x :: l)) = 0) : checkS (listV l) = 0 := by
  obtain ⟨h1, h2, h3⟩ := check_great h
  have s1 := sizes_list h2
  rw [kindsS_eq] at h1
  have h1 : kindssS (x :: l) = true := h1
  rw [kindssS, Bool.and_eq_true] at h1
  have h2' := h2
  rw [greatS_eq] at h2
  have h2 : (decide (((x :: l).length : Int) > 64) || decide ((8 : Int) < 1) || greatsS (x :: l) 7) = false := h2
  rw [greatsS] at h2
  simp only [Bool.or_eq_false_iff, decide_eq_false_iff_not, List.length_cons] at h2
  have g : greatS (listV l) 8 = false := by
    rw [greatS_eq]
    show (decide ((l.length : Int) > 64) || decide ((8 : Int) < 1) || greatsS l 7) = false
    rw [h2.2.2, decide_eq_false (by omega)]; rfl
  have s2 := sizes_list g
  have sx := size_great (d := 7) (by decide) (show greatS x ((7 : Nat) : Int) = false from h2.2.1)
  have : sumS (x :: l) = sizeS x + sumS l := by simp [sumS]
  have k : kindsS (listV l) = true := by rw [kindsS_eq]; exact h1.2
  unfold checkS
  rw [k, g]
  rw [if_neg (by decide), if_neg (by simp; omega)]
theorem qOk_list {l : List V} (h : l.length ≤ 32) (hc : checkS (listV l) = 0) : qOk (listV l) = true := by
  show (((4 : Int) == 4) && (decide ((l.length : Int) ≤ 32) && checkS (listV l) == 0)) = true
  rw [hc, decide_eq_true (by omega)]; rfl
theorem q_clean {s : V} (h : qOk s = true) : qOk (listV (s.l.map cleanS)) = true := by
  obtain ⟨h1, h2, h3⟩ := q_of h
  exact qOk_list (by simpa using h2) (by rw [← clean_q h]; exact check_clean h3)
theorem q_next {s : V} {m : ByteArray} {l : List V} (h : (qS s m l).2.2 = 0) : qOk (qS s m l).1 = true := by
  unfold qS at h ⊢
  split
  · rename_i h1; rw [if_pos h1] at h; cases h
  rename_i h1
  rw [if_neg h1] at h
  have hq := q_clean (s := s) (by simpa using h1)
  split
  · rename_i h2; rw [if_pos h2] at h; simp at h2; exact absurd h h2
  rename_i h2
  rw [if_neg h2] at h
  generalize s.l.map cleanS = L at h hq ⊢
  unfold q1S at h ⊢
  split
  · rename_i h3
    rw [if_pos h3] at h
    unfold pushS at h ⊢
    split
    · rename_i h4; exact h4
    · rename_i h4; rw [if_neg h4] at h; cases h
  rename_i h3
  rw [if_neg h3] at h
  split
  · exact hq
  rename_i h4
  rw [if_neg h4] at h
  split
  · rename_i h5
    rw [if_pos h5] at h
    split
    · rename_i h6; rw [if_pos h6] at h; cases h
    · exact hq
  split
  · exact hq
  split
  · match L, hq with
    | [], hq => exact hq
    | x :: L', hq =>
      obtain ⟨_, h2, h3⟩ := q_of hq
      exact qOk_list (by have : (x :: L').length ≤ 32 := h2; simp at this ⊢; omega) (check_tail h3)
  · exact hq

theorem methR_q : methR sQueue = methRQueue := by unfold methR; simp only [ByteArray.toList_eq]; rfl
theorem q_known1 : qS (listV []) sPush [intV' 7] = (listV [intV' 7], intV' 1, 0) := by
  unfold qS
  rw [show (!qOk (listV [])) = false by kernel_rfl]
  have : checkR sQueue sPush [intV' 7] = 0 := by unfold checkR findS; rw [methR_q]; simp only [ByteArray.toList_eq]; kernel_rfl
  rw [this]
  unfold q1S
  rw [show (sPush.toList == sPush.toList) = true by simp only [ByteArray.toList_eq]; rfl]
  show _ = _
  kernel_rfl
theorem q_known2 : qS (listV [intV' 7]) sPop [] = (listV [], intV' 7, 0) := by
  unfold qS
  rw [show (!qOk (listV [intV' 7])) = false by kernel_rfl]
  have : checkR sQueue sPop [] = 0 := by unfold checkR findS; rw [methR_q]; simp only [ByteArray.toList_eq]; kernel_rfl
  rw [this]
  unfold q1S
  rw [show (sPop.toList == sPush.toList) = false by simp only [ByteArray.toList_eq]; rfl, show (sPop.toList == sLen.toList) = false by simp only [ByteArray.toList_eq]; rfl, show (sPop.toList == sNth.toList) = false by simp only [ByteArray.toList_eq]; rfl, show (sPop.toList == sPop.toList) = true by simp only [ByteArray.toList_eq]; rfl]
  show _ = _
  kernel_rfl
theorem q_known3 : qS (listV [intV' 7]) sNth [intV' 1] = (nilV, nilV, 34) := by
  unfold qS
  rw [show (!qOk (listV [intV' 7])) = false by kernel_rfl]
  have : checkR sQueue sNth [intV' 1] = 0 := by unfold checkR findS; rw [methR_q]; simp only [ByteArray.toList_eq]; kernel_rfl
  rw [this]
  unfold q1S
  rw [show (sNth.toList == sPush.toList) = false by simp only [ByteArray.toList_eq]; rfl, show (sNth.toList == sLen.toList) = false by simp only [ByteArray.toList_eq]; rfl, show (sNth.toList == sNth.toList) = true by simp only [ByteArray.toList_eq]; rfl]
  show _ = _
  kernel_rfl
theorem knownQ_c : Pure env.P 41 [] [.v (.bool true)] := by
  refine Pure.go (E := env) Try.func41 rfl rfl rfl (Nat.le_of_ble_eq_true rfl) (Nat.le_of_ble_eq_true rfl) ?_; rintro ⟨w0, T0, L0, n, r0, hn0, hT0⟩ hn hT hU; obtain rfl : n = _ := hn
  have h0 := list_c []
  have h1 := qDo_c (listV []) sPush [intV' 7]
  rw [q_known1] at h1
  have h2 := qDo_c (listV [intV' 7]) sPop []
  rw [q_known2] at h2
  have h3 := qDo_c (listV [intV' 7]) sNth [intV' 1]
  rw [q_known3] at h3
  have h4 := rightQ_c (listV [intV' 7])
  rw [show qOk (listV [intV' 7]) = true by kernel_rfl] at h4
  (repeat' (first | refine CQ.seq ?_ | refine CQ.block ?_ | ((first | apply CQ.rT hU | apply CQ.rD hU); (· (repeat (first | exact RunL.nil | (apply RunL.op; (first | ((first | apply sv | (apply gv; (· rfl); (· rfl)) | (apply gvB; (· rfl); (· rfl); (· assumption))); (first | exact .callP rfl rfl ta (h0) | exact .callP rfl rfl ta ((int_c 7)) | exact .callP rfl rfl ta ((int_c 1)) | exact .callP rfl rfl ta (h1) | exact .callP rfl rfl ta (h2) | exact .callP rfl rfl ta (h3) | exact .callP rfl rfl ta (h4) | exact vv)) | exact gn rfl rfl rfl | exact gnU rfl rfl | exact gnB rfl rfl (by assumption) rfl | exact so oo | exact gR rfl rfl oo | exact so rr | exact gR rfl rfl rr | exact gRB rfl rfl (by assumption) oo | exact gRB rfl rfl (by assumption) rr))))); (· kernel_rfl); clear hU; intro hU) | refine CQ.condT rfl ?_ | refine CQ.condF rfl ?_ | refine CQ.condT (hbl ‹_›) ?_ | refine CQ.condF (hbl ‹_›) ?_ | refine CQ.ret ?_ | refine CQ.skip ?_ | refine CQ.exit ?_ | (apply CQ.cond rfl <;> intro hb)))
  (repeat' (first | (apply retC; (first | (apply RetA.tmp; (repeat' (first | exact rfl | exact wE rfl rfl | exact wNV rfl | exact wLV rfl | exact wMs rfl rfl rfl rfl rfl | exact wCv rfl rfl | exact wCv' rfl rfl | exact wNil rfl rfl | exact wF rfl (LeC.fl _) | exact wF rfl (LeC.refl _) | apply wV5 rfl | apply wCv rfl | apply wCv' rfl | apply wE rfl | apply wMs rfl rfl rfl rfl | refine wMs rfl rfl ?_ rfl ?_))) | (apply RetA.cellS rfl rfl rfl rfl rfl; (repeat' (first | exact rfl | exact wE rfl rfl | exact wNV rfl | exact wLV rfl | exact wMs rfl rfl rfl rfl rfl | exact wCv rfl rfl | exact wCv' rfl rfl | exact wNil rfl rfl | exact wF rfl (LeC.fl _) | exact wF rfl (LeC.refl _) | apply wV5 rfl | apply wCv rfl | apply wCv' rfl | apply wE rfl | apply wMs rfl rfl rfl rfl | refine wMs rfl rfl ?_ rfl ?_))) | (apply RetA.cellW rfl rfl rfl rfl rfl; (repeat' (first | exact rfl | exact wE rfl rfl | exact wNV rfl | exact wLV rfl | exact wMs rfl rfl rfl rfl rfl | exact wCv rfl rfl | exact wCv' rfl rfl | exact wNil rfl rfl | exact wF rfl (LeC.fl _) | exact wF rfl (LeC.refl _) | apply wV5 rfl | apply wCv rfl | apply wCv' rfl | apply wE rfl | apply wMs rfl rfl rfl rfl | refine wMs rfl rfl ?_ rfl ?_))))) | exact retN))
theorem queueRaw_c (s : V) (k : Nat) (hk : k < 256) (l : List V) : Pure env.P 11 [s.cv, .v (.int .u8 k), .sl 5 (l.map V.cv)] [.v (.bool true)] := by
  refine Pure.go (E := env) Try.func11 rfl rfl rfl (Nat.le_of_ble_eq_true rfl) (Nat.le_of_ble_eq_true rfl) ?_; rintro ⟨w0, T0, L0, n, r0, hn0, hT0⟩ hn hT hU; obtain rfl : n = _ := hn
  have hkn := knownQ_c
  have h1 := light_c s
  have h2 := lights_c l
  have h3 := rightQ_c s
  have h4 := right1Q_c s
  have hm := methodQueue_c k hk
  generalize pickM (methodsS methRQueue) k = m at hm
  have h5 := qDo_c s m l
  have h6 := qRef_c s m l
  have h7 := same_c (qS s m l).1 (qS s m l).1
  have h8 := same_c (qS s m l).2.1 (qS s m l).2.1
  rw [sameS_refl] at h7 h8
  cases hs : lightS s
  · rw [hs] at h1
    (repeat' (first | refine CQ.seq ?_ | refine CQ.block ?_ | ((first | apply CQ.rT hU | apply CQ.rD hU); (· (repeat (first | exact RunL.nil | (apply RunL.op; (first | ((first | apply sv | (apply gv; (· rfl); (· rfl)) | (apply gvB; (· rfl); (· rfl); (· assumption))); (first | exact .callP rfl rfl ta (hkn) | exact .callP rfl rfl ta (h1) | exact vv)) | exact gn rfl rfl rfl | exact gnU rfl rfl | exact gnB rfl rfl (by assumption) rfl | exact so oo | exact gR rfl rfl oo | exact so rr | exact gR rfl rfl rr | exact gRB rfl rfl (by assumption) oo | exact gRB rfl rfl (by assumption) rr))))); (· kernel_rfl); clear hU; intro hU) | refine CQ.condT rfl ?_ | refine CQ.condF rfl ?_ | refine CQ.condT (hbl ‹_›) ?_ | refine CQ.condF (hbl ‹_›) ?_ | refine CQ.ret ?_ | refine CQ.skip ?_ | refine CQ.exit ?_ | (apply CQ.cond rfl <;> intro hb)))
    (repeat' (first | (apply retC; (first | (apply RetA.tmp; (repeat' (first | exact rfl | exact wE rfl rfl | exact wNV rfl | exact wLV rfl | exact wMs rfl rfl rfl rfl rfl | exact wCv rfl rfl | exact wCv' rfl rfl | exact wNil rfl rfl | exact wF rfl (LeC.fl _) | exact wF rfl (LeC.refl _) | apply wV5 rfl | apply wCv rfl | apply wCv' rfl | apply wE rfl | apply wMs rfl rfl rfl rfl | refine wMs rfl rfl ?_ rfl ?_))) | (apply RetA.cellS rfl rfl rfl rfl rfl; (repeat' (first | exact rfl | exact wE rfl rfl | exact wNV rfl | exact wLV rfl | exact wMs rfl rfl rfl rfl rfl | exact wCv rfl rfl | exact wCv' rfl rfl | exact wNil rfl rfl | exact wF rfl (LeC.fl _) | exact wF rfl (LeC.refl _) | apply wV5 rfl | apply wCv rfl | apply wCv' rfl | apply wE rfl | apply wMs rfl rfl rfl rfl | refine wMs rfl rfl ?_ rfl ?_))) | (apply RetA.cellW rfl rfl rfl rfl rfl; (repeat' (first | exact rfl | exact wE rfl rfl | exact wNV rfl | exact wLV rfl | exact wMs rfl rfl rfl rfl rfl | exact wCv rfl rfl | exact wCv' rfl rfl | exact wNil rfl rfl | exact wF rfl (LeC.fl _) | exact wF rfl (LeC.refl _) | apply wV5 rfl | apply wCv rfl | apply wCv' rfl | apply wE rfl | apply wMs rfl rfl rfl rfl | refine wMs rfl rfl ?_ rfl ?_))))) | exact retN))
  cases hl : lightsS l
  · rw [hs] at h1; rw [hl] at h2
    (repeat' (first | refine CQ.seq ?_ | refine CQ.block ?_ | ((first | apply CQ.rT hU | apply CQ.rD hU); (· (repeat (first | exact RunL.nil | (apply RunL.op; (first | ((first | apply sv | (apply gv; (· rfl); (· rfl)) | (apply gvB; (· rfl); (· rfl); (· assumption))); (first | exact .callP rfl rfl ta (hkn) | exact .callP rfl rfl ta (h1) | exact .callP rfl rfl ta (h2) | exact vv)) | exact gn rfl rfl rfl | exact gnU rfl rfl | exact gnB rfl rfl (by assumption) rfl | exact so oo | exact gR rfl rfl oo | exact so rr | exact gR rfl rfl rr | exact gRB rfl rfl (by assumption) oo | exact gRB rfl rfl (by assumption) rr))))); (· kernel_rfl); clear hU; intro hU) | refine CQ.condT rfl ?_ | refine CQ.condF rfl ?_ | refine CQ.condT (hbl ‹_›) ?_ | refine CQ.condF (hbl ‹_›) ?_ | refine CQ.ret ?_ | refine CQ.skip ?_ | refine CQ.exit ?_ | (apply CQ.cond rfl <;> intro hb)))
    (repeat' (first | (apply retC; (first | (apply RetA.tmp; (repeat' (first | exact rfl | exact wE rfl rfl | exact wNV rfl | exact wLV rfl | exact wMs rfl rfl rfl rfl rfl | exact wCv rfl rfl | exact wCv' rfl rfl | exact wNil rfl rfl | exact wF rfl (LeC.fl _) | exact wF rfl (LeC.refl _) | apply wV5 rfl | apply wCv rfl | apply wCv' rfl | apply wE rfl | apply wMs rfl rfl rfl rfl | refine wMs rfl rfl ?_ rfl ?_))) | (apply RetA.cellS rfl rfl rfl rfl rfl; (repeat' (first | exact rfl | exact wE rfl rfl | exact wNV rfl | exact wLV rfl | exact wMs rfl rfl rfl rfl rfl | exact wCv rfl rfl | exact wCv' rfl rfl | exact wNil rfl rfl | exact wF rfl (LeC.fl _) | exact wF rfl (LeC.refl _) | apply wV5 rfl | apply wCv rfl | apply wCv' rfl | apply wE rfl | apply wMs rfl rfl rfl rfl | refine wMs rfl rfl ?_ rfl ?_))) | (apply RetA.cellW rfl rfl rfl rfl rfl; (repeat' (first | exact rfl | exact wE rfl rfl | exact wNV rfl | exact wLV rfl | exact wMs rfl rfl rfl rfl rfl | exact wCv rfl rfl | exact wCv' rfl rfl | exact wNil rfl rfl | exact wF rfl (LeC.fl _) | exact wF rfl (LeC.refl _) | apply wV5 rfl | apply wCv rfl | apply wCv' rfl | apply wE rfl | apply wMs rfl rfl rfl rfl | refine wMs rfl rfl ?_ rfl ?_))))) | exact retN))
  rw [hs] at h1; rw [hl] at h2
  have e1 : (qOk s == qOk s) = true := by simp
  have e2 : (!(qOk s == qOk s)) = false := by simp
  have e3 : ((qS s m l).2.2 == (qS s m l).2.2) = true := by simp
  (repeat' (first | refine CQ.seq ?_ | refine CQ.block ?_ | ((first | apply CQ.rT hU | apply CQ.rD hU); (· (repeat (first | exact RunL.nil | (apply RunL.op; (first | ((first | apply sv | (apply gv; (· rfl); (· rfl)) | (apply gvB; (· rfl); (· rfl); (· assumption))); (first | exact .callP rfl rfl ta (hkn) | exact .callP rfl rfl ta (h1) | exact .callP rfl rfl ta (h2) | exact .callP rfl rfl ta (h3) | exact .callP rfl rfl ta (h4) | exact .callP rfl rfl ta (hm) | exact .callP rfl rfl ta (h5) | exact .callP rfl rfl ta (h6) | exact .callP rfl rfl ta (h7) | exact .callP rfl rfl ta (h8) | exact vv)) | exact gn rfl rfl rfl | exact gnU rfl rfl | exact gnB rfl rfl (by assumption) rfl | exact so oo | exact gR rfl rfl oo | exact so rr | exact gR rfl rfl rr | exact gRB rfl rfl (by assumption) oo | exact gRB rfl rfl (by assumption) rr))))); (· kernel_rfl); clear hU; intro hU) | refine CQ.condT rfl ?_ | refine CQ.condF rfl ?_ | refine CQ.condT (hbl ‹_›) ?_ | refine CQ.condF (hbl ‹_›) ?_ | refine CQ.ret ?_ | refine CQ.skip ?_ | refine CQ.exit ?_ | (apply CQ.cond rfl <;> intro hb)))
  (repeat' (first | (apply retC; (first | (apply RetA.tmp; (repeat' (first | exact rfl | exact wE rfl rfl | exact wNV rfl | exact wLV rfl | exact wMs rfl rfl rfl rfl rfl | exact wCv rfl rfl | exact wCv' rfl rfl | exact wNil rfl rfl | exact wF rfl (LeC.fl _) | exact wF rfl (LeC.refl _) | apply wV5 rfl | apply wCv rfl | apply wCv' rfl | apply wE rfl | apply wMs rfl rfl rfl rfl | refine wMs rfl rfl ?_ rfl ?_))) | (apply RetA.cellS rfl rfl rfl rfl rfl; (repeat' (first | exact rfl | exact wE rfl rfl | exact wNV rfl | exact wLV rfl | exact wMs rfl rfl rfl rfl rfl | exact wCv rfl rfl | exact wCv' rfl rfl | exact wNil rfl rfl | exact wF rfl (LeC.fl _) | exact wF rfl (LeC.refl _) | apply wV5 rfl | apply wCv rfl | apply wCv' rfl | apply wE rfl | apply wMs rfl rfl rfl rfl | refine wMs rfl rfl ?_ rfl ?_))) | (apply RetA.cellW rfl rfl rfl rfl rfl; (repeat' (first | exact rfl | exact wE rfl rfl | exact wNV rfl | exact wLV rfl | exact wMs rfl rfl rfl rfl rfl | exact wCv rfl rfl | exact wCv' rfl rfl | exact wNil rfl rfl | exact wF rfl (LeC.fl _) | exact wF rfl (LeC.refl _) | apply wV5 rfl | apply wCv rfl | apply wCv' rfl | apply wE rfl | apply wMs rfl rfl rfl rfl | refine wMs rfl rfl ?_ rfl ?_))))) | exact retN))
theorem queuePlays_c (l : List Act) : Pure env.P 10 [.sl 2 (l.map GA.g)] [.v (.bool true)] := by
  refine Pure.fact 0 rfl ⟨_, Try.func10, rfl, rfl⟩ (fun _ _ _ h => acts_len h) ?_; intro hlen; refine Pure.go (E := env) Try.func10 rfl rfl rfl (Nat.le_of_ble_eq_true rfl) (Nat.le_of_ble_eq_true rfl) ?_; rintro ⟨w0, T0, L0, n, r0, hn0, hT0⟩ hn hT hU; obtain rfl : n = _ := hn
  have hkn := knownQ_c
  have hst := startR_c sQueue
  rw [show startS sQueue = (listV [], true) by unfold startS; simp only [ByteArray.toList_eq]; rfl] at hst
  cases h60 : decide ((l.length : Int) > 60)
  rotate_left
  · (repeat' (first | refine CQ.seq ?_ | refine CQ.block ?_ | ((first | apply CQ.rT hU | apply CQ.rD hU); (· (repeat (first | exact RunL.nil | (apply RunL.op; (first | ((first | apply sv | (apply gv; (· rfl); (· rfl)) | (apply gvB; (· rfl); (· rfl); (· assumption))); (first | exact .callP rfl rfl ta (hkn) | exact (lnG (G := GA) rfl rfl rfl) | exact vv)) | exact gn rfl rfl rfl | exact gnU rfl rfl | exact gnB rfl rfl (by assumption) rfl | exact so oo | exact gR rfl rfl oo | exact so rr | exact gR rfl rfl rr | exact gRB rfl rfl (by assumption) oo | exact gRB rfl rfl (by assumption) rr))))); (· kernel_rfl); clear hU; intro hU) | refine CQ.condT rfl ?_ | refine CQ.condF rfl ?_ | refine CQ.condT (hbl ‹_›) ?_ | refine CQ.condF (hbl ‹_›) ?_ | refine CQ.ret ?_ | refine CQ.skip ?_ | refine CQ.exit ?_ | (apply CQ.cond rfl <;> intro hb)))
    (repeat' (first | (apply retC; (first | (apply RetA.tmp; (repeat' (first | exact rfl | exact wE rfl rfl | exact wNV rfl | exact wLV rfl | exact wMs rfl rfl rfl rfl rfl | exact wCv rfl rfl | exact wCv' rfl rfl | exact wNil rfl rfl | exact wF rfl (LeC.fl _) | exact wF rfl (LeC.refl _) | apply wV5 rfl | apply wCv rfl | apply wCv' rfl | apply wE rfl | apply wMs rfl rfl rfl rfl | refine wMs rfl rfl ?_ rfl ?_))) | (apply RetA.cellS rfl rfl rfl rfl rfl; (repeat' (first | exact rfl | exact wE rfl rfl | exact wNV rfl | exact wLV rfl | exact wMs rfl rfl rfl rfl rfl | exact wCv rfl rfl | exact wCv' rfl rfl | exact wNil rfl rfl | exact wF rfl (LeC.fl _) | exact wF rfl (LeC.refl _) | apply wV5 rfl | apply wCv rfl | apply wCv' rfl | apply wE rfl | apply wMs rfl rfl rfl rfl | refine wMs rfl rfl ?_ rfl ?_))) | (apply RetA.cellW rfl rfl rfl rfl rfl; (repeat' (first | exact rfl | exact wE rfl rfl | exact wNV rfl | exact wLV rfl | exact wMs rfl rfl rfl rfl rfl | exact wCv rfl rfl | exact wCv' rfl rfl | exact wNil rfl rfl | exact wF rfl (LeC.fl _) | exact wF rfl (LeC.refl _) | apply wV5 rfl | apply wCv rfl | apply wCv' rfl | apply wE rfl | apply wMs rfl rfl rfl rfl | refine wMs rfl rfl ?_ rfl ?_))))) | exact retN))
  have hl60 : l.length ≤ 60 := by simp at h60; omega
  (repeat' (first | refine CQ.seq ?_ | refine CQ.block ?_ | ((first | apply CQ.rT hU | apply CQ.rD hU); (· (repeat (first | exact RunL.nil | (apply RunL.op; (first | ((first | apply sv | (apply gv; (· rfl); (· rfl)) | (apply gvB; (· rfl); (· rfl); (· assumption))); (first | exact .callP rfl rfl ta (hkn) | exact (lnG (G := GA) rfl rfl rfl) | exact .callP rfl rfl ta (hst) | exact vv)) | exact gn rfl rfl rfl | exact gnU rfl rfl | exact gnB rfl rfl (by assumption) rfl | exact so oo | exact gR rfl rfl oo | exact so rr | exact gR rfl rfl rr | exact gRB rfl rfl (by assumption) oo | exact gRB rfl rfl (by assumption) rr))))); (· kernel_rfl); clear hU; intro hU) | refine CQ.condT rfl ?_ | refine CQ.condF rfl ?_ | refine CQ.condT (hbl ‹_›) ?_ | refine CQ.condF (hbl ‹_›) ?_ | refine CQ.ret ?_ | refine CQ.skip ?_ | refine CQ.exit ?_ | (apply CQ.cond rfl <;> intro hb)))
  refine CQ.loop hT (fun x : Nat × V => ⟨mkT [(0, .c (.sl 2 (l.map GA.g))), (3, .loc 3 0), (5, .c (.v (.int .i64 x.1)))], mkM [(3, .box x.2.ca)]⟩) (fun x => x.1 ≤ l.length) (fun x => l.length - x.1) (0, listV []) (Nat.zero_le _) ?_ ?_
  · (refine wkS ?_ ?_; (all_goals (repeat' (first | exact wkB | refine wkP ?_ ?_ | exact wkMB | refine wkMP rfl ?_ ?_ | exact wkOr rfl | exact wkB0 | refine wkBx ?_ ?_ | refine wkOa ?_ | exact wr rfl | exact wE rfl rfl | exact wNV rfl | exact wLV rfl | exact wMs rfl rfl rfl rfl rfl | exact wCv rfl rfl | exact wCv' rfl rfl | exact wNil rfl rfl | exact wF rfl (LeC.fl _) | apply wV5 rfl | apply wCv rfl | apply wCv' rfl | apply wE rfl | apply wMs rfl rfl rfl rfl | refine wMs rfl rfl ?_ rfl ?_))))
  clear hU
  rintro ⟨k, s⟩ hk
  simp only at hk
  have hU : Fresh [3] ⟨mkT [(0, .c (.sl 2 (l.map GA.g))), (3, .loc 3 0), (5, .c (.v (.int .i64 k)))], mkM [(3, .box s.ca)]⟩ := by exact fr
  cases hb : decide ((k : Int) < (l.length : Int))
  · (repeat' (first | refine CQ.seq ?_ | refine CQ.block ?_ | ((first | apply CQ.rT hU | apply CQ.rD hU); (· (repeat (first | exact RunL.nil | (apply RunL.op; (first | ((first | apply sv | (apply gv; (· rfl); (· rfl)) | (apply gvB; (· rfl); (· rfl); (· assumption))); (first | exact (lnG (G := GA) rfl rfl rfl) | exact vv)) | exact gn rfl rfl rfl | exact gnU rfl rfl | exact gnB rfl rfl (by assumption) rfl | exact so oo | exact gR rfl rfl oo | exact so rr | exact gR rfl rfl rr | exact gRB rfl rfl (by assumption) oo | exact gRB rfl rfl (by assumption) rr))))); (· kernel_rfl); clear hU; intro hU) | refine CQ.condT rfl ?_ | refine CQ.condF rfl ?_ | refine CQ.condT (hbl ‹_›) ?_ | refine CQ.condF (hbl ‹_›) ?_ | refine CQ.ret ?_ | refine CQ.skip ?_ | refine CQ.exit ?_ | (apply CQ.cond rfl <;> intro hb)))
    (repeat' (first | (apply retC; (first | (apply RetA.tmp; (repeat' (first | exact rfl | exact wE rfl rfl | exact wNV rfl | exact wLV rfl | exact wMs rfl rfl rfl rfl rfl | exact wCv rfl rfl | exact wCv' rfl rfl | exact wNil rfl rfl | exact wF rfl (LeC.fl _) | exact wF rfl (LeC.refl _) | apply wV5 rfl | apply wCv rfl | apply wCv' rfl | apply wE rfl | apply wMs rfl rfl rfl rfl | refine wMs rfl rfl ?_ rfl ?_))) | (apply RetA.cellS rfl rfl rfl rfl rfl; (repeat' (first | exact rfl | exact wE rfl rfl | exact wNV rfl | exact wLV rfl | exact wMs rfl rfl rfl rfl rfl | exact wCv rfl rfl | exact wCv' rfl rfl | exact wNil rfl rfl | exact wF rfl (LeC.fl _) | exact wF rfl (LeC.refl _) | apply wV5 rfl | apply wCv rfl | apply wCv' rfl | apply wE rfl | apply wMs rfl rfl rfl rfl | refine wMs rfl rfl ?_ rfl ?_))) | (apply RetA.cellW rfl rfl rfl rfl rfl; (repeat' (first | exact rfl | exact wE rfl rfl | exact wNV rfl | exact wLV rfl | exact wMs rfl rfl rfl rfl rfl | exact wCv rfl rfl | exact wCv' rfl rfl | exact wNil rfl rfl | exact wF rfl (LeC.fl _) | exact wF rfl (LeC.refl _) | apply wV5 rfl | apply wCv rfl | apply wCv' rfl | apply wE rfl | apply wMs rfl rfl rfl rfl | refine wMs rfl rfl ?_ rfl ?_))))) | exact retN))
  have hk' : k < l.length := by simpa using hb
  have hy := gy (G := GA) (List.getElem?_eq_getElem hk')
  generalize l[k] = act at hy
  obtain ⟨⟨b, hb256⟩, a⟩ := act
  have h2 := lights_c a
  cases hl : lightsS a
  · rw [hl] at h2
    (repeat' (first | refine CQ.seq ?_ | refine CQ.block ?_ | ((first | apply CQ.rT hU | apply CQ.rD hU); (· (repeat (first | exact RunL.nil | (apply RunL.op; (first | ((first | apply sv | (apply gv; (· rfl); (· rfl)) | (apply gvB; (· rfl); (· rfl); (· assumption))); (first | exact (lnG (G := GA) rfl rfl rfl) | exact (.idxC rfl rfl (by omega) (by assumption) rfl rfl rfl rfl) | exact .callP rfl rfl ta (h2) | exact vv)) | exact gn rfl rfl rfl | exact gnU rfl rfl | exact gnB rfl rfl (by assumption) rfl | exact so oo | exact gR rfl rfl oo | exact so rr | exact gR rfl rfl rr | exact gRB rfl rfl (by assumption) oo | exact gRB rfl rfl (by assumption) rr))))); (· kernel_rfl); clear hU; intro hU) | refine CQ.condT rfl ?_ | refine CQ.condF rfl ?_ | refine CQ.condT (hbl ‹_›) ?_ | refine CQ.condF (hbl ‹_›) ?_ | refine CQ.ret ?_ | refine CQ.skip ?_ | refine CQ.exit ?_ | (apply CQ.cond rfl <;> intro hb)))
    (repeat' (first | (apply retC; (first | (apply RetA.tmp; (repeat' (first | exact rfl | exact wE rfl rfl | exact wNV rfl | exact wLV rfl | exact wMs rfl rfl rfl rfl rfl | exact wCv rfl rfl | exact wCv' rfl rfl | exact wNil rfl rfl | exact wF rfl (LeC.fl _) | exact wF rfl (LeC.refl _) | apply wV5 rfl | apply wCv rfl | apply wCv' rfl | apply wE rfl | apply wMs rfl rfl rfl rfl | refine wMs rfl rfl ?_ rfl ?_))) | (apply RetA.cellS rfl rfl rfl rfl rfl; (repeat' (first | exact rfl | exact wE rfl rfl | exact wNV rfl | exact wLV rfl | exact wMs rfl rfl rfl rfl rfl | exact wCv rfl rfl | exact wCv' rfl rfl | exact wNil rfl rfl | exact wF rfl (LeC.fl _) | exact wF rfl (LeC.refl _) | apply wV5 rfl | apply wCv rfl | apply wCv' rfl | apply wE rfl | apply wMs rfl rfl rfl rfl | refine wMs rfl rfl ?_ rfl ?_))) | (apply RetA.cellW rfl rfl rfl rfl rfl; (repeat' (first | exact rfl | exact wE rfl rfl | exact wNV rfl | exact wLV rfl | exact wMs rfl rfl rfl rfl rfl | exact wCv rfl rfl | exact wCv' rfl rfl | exact wNil rfl rfl | exact wF rfl (LeC.fl _) | exact wF rfl (LeC.refl _) | apply wV5 rfl | apply wCv rfl | apply wCv' rfl | apply wE rfl | apply wMs rfl rfl rfl rfl | refine wMs rfl rfl ?_ rfl ?_))))) | exact retN))
  rw [hl] at h2
  have hm := methodQueue_c b hb256
  generalize pickM (methodsS methRQueue) b = m at hm
  have h5 := qDo_c s m a
  have h6 := qRef_c s m a
  have h7 := same_c (qS s m a).1 (qS s m a).1
  have h8 := same_c (qS s m a).2.1 (qS s m a).2.1
  rw [sameS_refl] at h7 h8
  have hr := rightQ_c (qS s m a).1
  have e1 : ((qS s m a).2.2 != (qS s m a).2.2) = false := by simp
  cases h0 : ((qS s m a).2.2 == 0)
  · (repeat' (first | refine CQ.seq ?_ | refine CQ.block ?_ | ((first | apply CQ.rT hU | apply CQ.rD hU); (· (repeat (first | exact RunL.nil | (apply RunL.op; (first | ((first | apply sv | (apply gv; (· rfl); (· rfl)) | (apply gvB; (· rfl); (· rfl); (· assumption))); (first | exact (lnG (G := GA) rfl rfl rfl) | exact (.idxC rfl rfl (by omega) (by assumption) rfl rfl rfl rfl) | exact .callP rfl rfl ta (h2) | exact .callP rfl rfl ta (hm) | exact .callP rfl rfl ta (h5) | exact .callP rfl rfl ta (h6) | exact .callP rfl rfl ta (h7) | exact .callP rfl rfl ta (h8) | exact vv)) | exact gn rfl rfl rfl | exact gnU rfl rfl | exact gnB rfl rfl (by assumption) rfl | exact so oo | exact gR rfl rfl oo | exact so rr | exact gR rfl rfl rr | exact gRB rfl rfl (by assumption) oo | exact gRB rfl rfl (by assumption) rr))))); (· kernel_rfl); clear hU; intro hU) | refine CQ.condT rfl ?_ | refine CQ.condF rfl ?_ | refine CQ.condT (hbl ‹_›) ?_ | refine CQ.condF (hbl ‹_›) ?_ | refine CQ.ret ?_ | refine CQ.skip ?_ | refine CQ.exit ?_ | (apply CQ.cond rfl <;> intro hb)))
    refine ⟨(k + 1, s), hk', by simp only; omega, ?_⟩
    (refine wkS ?_ ?_; (all_goals (repeat' (first | exact wkB | refine wkP ?_ ?_ | exact wkMB | refine wkMP rfl ?_ ?_ | exact wkOr rfl | exact wkB0 | refine wkBx ?_ ?_ | refine wkOa ?_ | exact wr rfl | exact wE rfl rfl | exact wNV rfl | exact wLV rfl | exact wMs rfl rfl rfl rfl rfl | exact wCv rfl rfl | exact wCv' rfl rfl | exact wNil rfl rfl | exact wF rfl (LeC.fl _) | apply wV5 rfl | apply wCv rfl | apply wCv' rfl | apply wE rfl | apply wMs rfl rfl rfl rfl | refine wMs rfl rfl ?_ rfl ?_))))
    rw [wrapS hk' hlen]
  · rw [q_next (by simpa using h0)] at hr
    (repeat' (first | refine CQ.seq ?_ | refine CQ.block ?_ | ((first | apply CQ.rT hU | apply CQ.rD hU); (· (repeat (first | exact RunL.nil | (apply RunL.op; (first | ((first | apply sv | (apply gv; (· rfl); (· rfl)) | (apply gvB; (· rfl); (· rfl); (· assumption))); (first | exact (lnG (G := GA) rfl rfl rfl) | exact (.idxC rfl rfl (by omega) (by assumption) rfl rfl rfl rfl) | exact .callP rfl rfl ta (h2) | exact .callP rfl rfl ta (hm) | exact .callP rfl rfl ta (h5) | exact .callP rfl rfl ta (h6) | exact .callP rfl rfl ta (h7) | exact .callP rfl rfl ta (h8) | exact .callP rfl rfl ta (hr) | exact vv)) | exact gn rfl rfl rfl | exact gnU rfl rfl | exact gnB rfl rfl (by assumption) rfl | exact so oo | exact gR rfl rfl oo | exact so rr | exact gR rfl rfl rr | exact gRB rfl rfl (by assumption) oo | exact gRB rfl rfl (by assumption) rr))))); (· kernel_rfl); clear hU; intro hU) | refine CQ.condT rfl ?_ | refine CQ.condF rfl ?_ | refine CQ.condT (hbl ‹_›) ?_ | refine CQ.condF (hbl ‹_›) ?_ | refine CQ.ret ?_ | refine CQ.skip ?_ | refine CQ.exit ?_ | (apply CQ.cond rfl <;> intro hb)))
    refine ⟨(k + 1, (qS s m a).1), hk', by simp only; omega, ?_⟩
    (refine wkS ?_ ?_; (all_goals (repeat' (first | exact wkB | refine wkP ?_ ?_ | exact wkMB | refine wkMP rfl ?_ ?_ | exact wkOr rfl | exact wkB0 | refine wkBx ?_ ?_ | refine wkOa ?_ | exact wr rfl | exact wE rfl rfl | exact wNV rfl | exact wLV rfl | exact wMs rfl rfl rfl rfl rfl | exact wCv rfl rfl | exact wCv' rfl rfl | exact wNil rfl rfl | exact wF rfl (LeC.fl _) | apply wV5 rfl | apply wCv rfl | apply wCv' rfl | apply wE rfl | apply wMs rfl rfl rfl rfl | refine wMs rfl rfl ?_ rfl ?_))))
    rw [wrapS hk' hlen]

end Go.Proofs.Ytbjcckjhfjhicaa
