/- Walks: the laws of classes and methods. -/
import Derived.Test.YtbjcckjhfjhicaaG1
namespace Go.Proofs.Ytbjcckjhfjhicaa
open Go Go.AM
set_option linter.unusedVariables false
set_option maxHeartbeats 4000000
set_option maxRecDepth 100000
set_option linter.unusedSimpArgs false

def sPush : ByteArray := ⟨#[112, 117, 115, 104]⟩
def sPop : ByteArray := ⟨#[112, 111, 112]⟩
def sLen : ByteArray := ⟨#[108, 101, 110]⟩
def sNth : ByteArray := ⟨#[110, 116, 104]⟩
def sPeek : ByteArray := ⟨#[112, 101, 101, 107]⟩
theorem methR_queue : methR sQueue = methRQueue := by unfold methR; simp only [ByteArray.toList_eq]; rfl
theorem methA_queue : methA sQueue = methAQueue := by unfold methA; simp only [ByteArray.toList_eq]; rfl
theorem known7_c : Pure env.P 21 [] [.v (.bool true)] := by
  refine Pure.go (E := env) Try.func21 rfl rfl rfl (Nat.le_of_ble_eq_true rfl) (Nat.le_of_ble_eq_true rfl) ?_; rintro ⟨w0, T0, L0, n, r0, hn0, hT0⟩ hn hT hU; obtain rfl : n = _ := hn
  have h1 := startA_c sCounter
  rw [show startS sCounter = (counterV, true) by unfold startS; simp only [ByteArray.toList_eq]; rfl] at h1
  have h2 := startA_c sNope
  rw [show startS sNope = (nilV, false) by unfold startS; simp only [ByteArray.toList_eq]; rfl] at h2
  have h3 := methods_c sQueue
  rw [methA_queue] at h3
  have h4 := strings_c (methodsS methAQueue) [sLen, sNth, sPeek, sPop, sPush]
  rw [show decide (methodsS methAQueue = [sLen, sNth, sPeek, sPop, sPush]) = true from decide_eq_true rfl] at h4
  have h5 := classesA_c
  have h6 := checkA_c sQueue sPush []
  rw [checkA_eq, show checkR sQueue sPush [] = 31 by unfold checkR findS; rw [methR_queue]; simp only [ByteArray.toList_eq]; kernel_rfl] at h6
  have h7 := checkA_c sQueue sPush [nilV]
  rw [checkA_eq, show checkR sQueue sPush [nilV] = 0 by unfold checkR findS; rw [methR_queue]; simp only [ByteArray.toList_eq]; kernel_rfl] at h7
  have h8 := writesA_c sQueue sPop
  rw [methA_queue, show writesS methAQueue sPop = true by unfold writesS findS; simp only [ByteArray.toList_eq]; rfl] at h8
  have h9 := writesA_c sQueue sLen
  rw [methA_queue, show writesS methAQueue sLen = false by unfold writesS findS; simp only [ByteArray.toList_eq]; rfl] at h9
  (repeat' (first | refine CQ.seq ?_ | refine CQ.block ?_ | ((first | apply CQ.rT hU | apply CQ.rD hU); (· (repeat (first | exact RunL.nil | (apply RunL.op; (first | ((first | apply sv | (apply gv; (· rfl); (· rfl)) | (apply gvB; (· rfl); (· rfl); (· assumption))); (first | exact .callP rfl rfl ta (h1) | exact .callP rfl rfl ta (h2) | exact .callP rfl rfl ta (h3) | exact .callP rfl rfl ta (h4) | exact .callP rfl rfl ta (h5) | exact .callP rfl rfl ta (h6) | exact .callP rfl rfl ta (h7) | exact .callP rfl rfl ta (h8) | exact .callP rfl rfl ta (h9) | exact (lnG (G := GS) rfl rfl rfl) | (apply bsG (G := GS); (· repeat (first | exact ToGs.nil | (apply ToGs.cons; first | exact tE rfl))); (· rfl); (· rfl); (· rfl); (· rfl); (· rfl); (· rfl); (· rfl); (· rfl)) | exact vv)) | exact gn rfl rfl rfl | exact gnU rfl rfl | exact gnB rfl rfl (by assumption) rfl | (· apply so; first | exact apNG (G := GS) rfl rfl rfl rfl rfl rfl rfl rfl (Nat.le_of_ble_eq_true rfl) | (apply apMG (G := GS) rfl rfl; (· first | rfl | assumption | (simp; omega)); (· rfl); (· rfl); (· rfl); (· rfl); (· rfl); (· rfl); (· rfl); (· first | (simp; omega) | omega); (· exact Nat.le_of_ble_eq_true rfl)) | exact oo) | exact gR rfl rfl oo | exact so rr | exact gR rfl rfl rr | exact gRB rfl rfl (by assumption) oo | exact gRB rfl rfl (by assumption) rr))))); (· kernel_rfl); clear hU; intro hU) | refine CQ.condT rfl ?_ | refine CQ.condF rfl ?_ | refine CQ.condT (hbl ‹_›) ?_ | refine CQ.condF (hbl ‹_›) ?_ | refine CQ.ret ?_ | refine CQ.skip ?_ | refine CQ.exit ?_ | (apply CQ.cond rfl <;> intro hb)))
  (repeat' (first | (apply retC; (first | (apply RetA.tmp; (repeat' (first | exact rfl | exact wE rfl rfl | exact wNV rfl | exact wLV rfl | exact wMs rfl rfl rfl rfl rfl | exact wCv rfl rfl | exact wCv' rfl rfl | exact wNil rfl rfl | exact wF rfl (LeC.fl _) | exact wF rfl (LeC.refl _) | apply wV5 rfl | apply wCv rfl | apply wCv' rfl | apply wE rfl | apply wMs rfl rfl rfl rfl | refine wMs rfl rfl ?_ rfl ?_))) | (apply RetA.cellS rfl rfl rfl rfl rfl; (repeat' (first | exact rfl | exact wE rfl rfl | exact wNV rfl | exact wLV rfl | exact wMs rfl rfl rfl rfl rfl | exact wCv rfl rfl | exact wCv' rfl rfl | exact wNil rfl rfl | exact wF rfl (LeC.fl _) | exact wF rfl (LeC.refl _) | apply wV5 rfl | apply wCv rfl | apply wCv' rfl | apply wE rfl | apply wMs rfl rfl rfl rfl | refine wMs rfl rfl ?_ rfl ?_))) | (apply RetA.cellW rfl rfl rfl rfl rfl; (repeat' (first | exact rfl | exact wE rfl rfl | exact wNV rfl | exact wLV rfl | exact wMs rfl rfl rfl rfl rfl | exact wCv rfl rfl | exact wCv' rfl rfl | exact wNil rfl rfl | exact wF rfl (LeC.fl _) | exact wF rfl (LeC.refl _) | apply wV5 rfl | apply wCv rfl | apply wCv' rfl | apply wE rfl | apply wMs rfl rfl rfl rfl | refine wMs rfl rfl ?_ rfl ?_))))) | exact retN))

/-- Names are told in order. -/
def sortedB : List ByteArray → Bool
  | a :: b :: r => Op.bytesLess a.toList b.toList && sortedB (b :: r)
  | _ => true
theorem sorted_at : ∀ {l : List ByteArray} {k : Nat} {a b : ByteArray}, sortedB l = true → l[k]? = some a → l[k + 1]? = some b → Op.bytesLess a.toList b.toList = true
  | [], k, a, b, _, h, _ => by simp at h
  | [x], k, a, b, _, _, h => by simp at h
  | x :: y :: r, 0, a, b, hs, h, h' => by
    simp at h h'; subst h; subst h'
    simp only [sortedB, Bool.and_eq_true] at hs; exact hs.1
  | x :: y :: r, k + 1, a, b, hs, h, h' => by
    simp only [sortedB, Bool.and_eq_true] at hs
    exact sorted_at hs.2 (by simpa using h) (by simpa using h')
theorem methods_sorted (c : ByteArray) : sortedB (methodsS (methR c)) = true := by
  unfold methR
  repeat' split
  all_goals (unfold methodsS; simp only [methRCounter, methRLedger, methROrch, methRQueue, methRRegister, methRTable, List.map, sortedB, ByteArray.toList_eq]; try rfl)
theorem argsTell_c (k : Nat) (hk : k < 256) (s : ByteArray) (hs : s.size ≤ maxLen) (name : ByteArray) (hn : name.size ≤ maxLen) : Pure env.P 6 [.v (.int .u8 k), .v (.string s), .v (.string name)] [.v (.bool true)] := by
  refine Pure.go (E := env) Try.func6 rfl rfl rfl (Nat.le_of_ble_eq_true rfl) (Nat.le_of_ble_eq_true rfl) ?_; rintro ⟨w0, T0, L0, n, r0, hn0, hT0⟩ hn hT hU; obtain rfl : n = _ := hn
  have hkn := known7_c
  cases h1 : decide ((s.size : Int) > 40)
  rotate_left
  · (repeat' (first | refine CQ.seq ?_ | refine CQ.block ?_ | ((first | apply CQ.rT hU | apply CQ.rD hU); (· (repeat (first | exact RunL.nil | (apply RunL.op; (first | ((first | apply sv | (apply gv; (· rfl); (· rfl)) | (apply gvB; (· rfl); (· rfl); (· assumption))); (first | exact .callP rfl rfl ta (hkn) | exact vv)) | exact gn rfl rfl rfl | exact gnU rfl rfl | exact gnB rfl rfl (by assumption) rfl | exact so oo | exact gR rfl rfl oo | exact so rr | exact gR rfl rfl rr | exact gRB rfl rfl (by assumption) oo | exact gRB rfl rfl (by assumption) rr))))); (· kernel_rfl); clear hU; intro hU) | refine CQ.condT rfl ?_ | refine CQ.condF rfl ?_ | refine CQ.condT (hbl ‹_›) ?_ | refine CQ.condF (hbl ‹_›) ?_ | refine CQ.ret ?_ | refine CQ.skip ?_ | refine CQ.exit ?_ | (apply CQ.cond rfl <;> intro hb)))
    (repeat' (first | (apply retC; (first | (apply RetA.tmp; (repeat' (first | exact rfl | exact wE rfl rfl | exact wNV rfl | exact wLV rfl | exact wMs rfl rfl rfl rfl rfl | exact wCv rfl rfl | exact wCv' rfl rfl | exact wNil rfl rfl | exact wF rfl (LeC.fl _) | exact wF rfl (LeC.refl _) | apply wV5 rfl | apply wCv rfl | apply wCv' rfl | apply wE rfl | apply wMs rfl rfl rfl rfl | refine wMs rfl rfl ?_ rfl ?_))) | (apply RetA.cellS rfl rfl rfl rfl rfl; (repeat' (first | exact rfl | exact wE rfl rfl | exact wNV rfl | exact wLV rfl | exact wMs rfl rfl rfl rfl rfl | exact wCv rfl rfl | exact wCv' rfl rfl | exact wNil rfl rfl | exact wF rfl (LeC.fl _) | exact wF rfl (LeC.refl _) | apply wV5 rfl | apply wCv rfl | apply wCv' rfl | apply wE rfl | apply wMs rfl rfl rfl rfl | refine wMs rfl rfl ?_ rfl ?_))) | (apply RetA.cellW rfl rfl rfl rfl rfl; (repeat' (first | exact rfl | exact wE rfl rfl | exact wNV rfl | exact wLV rfl | exact wMs rfl rfl rfl rfl rfl | exact wCv rfl rfl | exact wCv' rfl rfl | exact wNil rfl rfl | exact wF rfl (LeC.fl _) | exact wF rfl (LeC.refl _) | apply wV5 rfl | apply wCv rfl | apply wCv' rfl | apply wE rfl | apply wMs rfl rfl rfl rfl | refine wMs rfl rfl ?_ rfl ?_))))) | exact retN))
  cases h2 : decide ((name.size : Int) > 40)
  rotate_left
  · (repeat' (first | refine CQ.seq ?_ | refine CQ.block ?_ | ((first | apply CQ.rT hU | apply CQ.rD hU); (· (repeat (first | exact RunL.nil | (apply RunL.op; (first | ((first | apply sv | (apply gv; (· rfl); (· rfl)) | (apply gvB; (· rfl); (· rfl); (· assumption))); (first | exact .callP rfl rfl ta (hkn) | exact vv)) | exact gn rfl rfl rfl | exact gnU rfl rfl | exact gnB rfl rfl (by assumption) rfl | exact so oo | exact gR rfl rfl oo | exact so rr | exact gR rfl rfl rr | exact gRB rfl rfl (by assumption) oo | exact gRB rfl rfl (by assumption) rr))))); (· kernel_rfl); clear hU; intro hU) | refine CQ.condT rfl ?_ | refine CQ.condF rfl ?_ | refine CQ.condT (hbl ‹_›) ?_ | refine CQ.condF (hbl ‹_›) ?_ | refine CQ.ret ?_ | refine CQ.skip ?_ | refine CQ.exit ?_ | (apply CQ.cond rfl <;> intro hb)))
    (repeat' (first | (apply retC; (first | (apply RetA.tmp; (repeat' (first | exact rfl | exact wE rfl rfl | exact wNV rfl | exact wLV rfl | exact wMs rfl rfl rfl rfl rfl | exact wCv rfl rfl | exact wCv' rfl rfl | exact wNil rfl rfl | exact wF rfl (LeC.fl _) | exact wF rfl (LeC.refl _) | apply wV5 rfl | apply wCv rfl | apply wCv' rfl | apply wE rfl | apply wMs rfl rfl rfl rfl | refine wMs rfl rfl ?_ rfl ?_))) | (apply RetA.cellS rfl rfl rfl rfl rfl; (repeat' (first | exact rfl | exact wE rfl rfl | exact wNV rfl | exact wLV rfl | exact wMs rfl rfl rfl rfl rfl | exact wCv rfl rfl | exact wCv' rfl rfl | exact wNil rfl rfl | exact wF rfl (LeC.fl _) | exact wF rfl (LeC.refl _) | apply wV5 rfl | apply wCv rfl | apply wCv' rfl | apply wE rfl | apply wMs rfl rfl rfl rfl | refine wMs rfl rfl ?_ rfl ?_))) | (apply RetA.cellW rfl rfl rfl rfl rfl; (repeat' (first | exact rfl | exact wE rfl rfl | exact wNV rfl | exact wLV rfl | exact wMs rfl rfl rfl rfl rfl | exact wCv rfl rfl | exact wCv' rfl rfl | exact wNil rfl rfl | exact wF rfl (LeC.fl _) | exact wF rfl (LeC.refl _) | apply wV5 rfl | apply wCv rfl | apply wCv' rfl | apply wE rfl | apply wMs rfl rfl rfl rfl | refine wMs rfl rfl ?_ rfl ?_))))) | exact retN))
  have hc := class_c k hk s
  generalize classS k s = c at hc
  have g1 := methods_c c
  have g2 := methods1_c c
  rw [methods_eq] at g1
  have hso := methods_sorted c
  have hml : (methodsS (methR c)).length ≤ 7 := by unfold methodsS; simpa using methR_len c
  have g3 := startA_c c
  have g4 := startR_c c
  have g5 := classesA_c
  have g6 := classes_c
  have g7 := strings_c classesS classesS
  rw [show decide (classesS = classesS) = true from decide_eq_true rfl] at g7
  have g8 := strings_c (methodsS (methR c)) (methodsS (methR c))
  rw [show decide (methodsS (methR c) = methodsS (methR c)) = true from decide_eq_true rfl] at g8
  have g9 := same_c (startS c).1 (startS c).1
  rw [sameS_refl] at g9
  have wA := fun n => writesA_c c n
  have wR := fun n => writesR_c c n
  simp only [writes_eq] at wA
  generalize startS c = st at g3 g4 g9
  generalize methodsS (methR c) = M at g1 g2 g8 hso hml
  generalize hwf : writesS (methR c) = wf at wA wR
  have e0 : (!(st.2 == st.2)) = false := by simp
  have e1 : (!(wf name == wf name)) = false := by simp
  (repeat' (first | refine CQ.seq ?_ | refine CQ.block ?_ | ((first | apply CQ.rT hU | apply CQ.rD hU); (· (repeat (first | exact RunL.nil | (apply RunL.op; (first | ((first | apply sv | (apply gv; (· rfl); (· rfl)) | (apply gvB; (· rfl); (· rfl); (· assumption))); (first | exact .callP rfl rfl ta (hkn) | exact .callP rfl rfl ta (hc) | exact .callP rfl rfl ta (g1) | exact .callP rfl rfl ta (g2) | exact .callP rfl rfl ta (g3) | exact .callP rfl rfl ta (g4) | exact .callP rfl rfl ta (g5) | exact .callP rfl rfl ta (g6) | exact .callP rfl rfl ta (g7) | exact .callP rfl rfl ta (g8) | exact .callP rfl rfl ta (g9) | exact .callP rfl rfl ta ((wA name)) | exact .callP rfl rfl ta ((wR name)) | exact vv)) | exact gn rfl rfl rfl | exact gnU rfl rfl | exact gnB rfl rfl (by assumption) rfl | exact so oo | exact gR rfl rfl oo | exact so rr | exact gR rfl rfl rr | exact gRB rfl rfl (by assumption) oo | exact gRB rfl rfl (by assumption) rr))))); (· kernel_rfl); clear hU; intro hU) | refine CQ.condT rfl ?_ | refine CQ.condF rfl ?_ | refine CQ.condT (hbl ‹_›) ?_ | refine CQ.condF (hbl ‹_›) ?_ | refine CQ.ret ?_ | refine CQ.skip ?_ | refine CQ.exit ?_ | (apply CQ.cond rfl <;> intro hb)))
  refine CQ.loop hT (fun i : Nat => ⟨mkT [(2, .c (.v (.string name))), (7, .c (.v (.string c))), (8, .c (.sl 1 (M.map GS.g))), (13, .c (.v (.int .i64 i)))], mkM []⟩) (fun i => i ≤ M.length) (fun i => M.length - i) 0 (Nat.zero_le _) ?_ ?_
  · (refine wkS ?_ ?_; (all_goals (repeat' (first | exact wkB | refine wkP ?_ ?_ | exact wkMB | refine wkMP rfl ?_ ?_ | exact wkOr rfl | exact wkB0 | refine wkBx ?_ ?_ | refine wkOa ?_ | exact wr rfl | exact wE rfl rfl | exact wNV rfl | exact wLV rfl | exact wMs rfl rfl rfl rfl rfl | exact wCv rfl rfl | exact wCv' rfl rfl | exact wNil rfl rfl | exact wF rfl (LeC.fl _) | apply wV5 rfl | apply wCv rfl | apply wCv' rfl | apply wE rfl | apply wMs rfl rfl rfl rfl | refine wMs rfl rfl ?_ rfl ?_))))
  clear hU
  rintro i hi
  have hU : Fresh [] ⟨mkT [(2, .c (.v (.string name))), (7, .c (.v (.string c))), (8, .c (.sl 1 (M.map GS.g))), (13, .c (.v (.int .i64 i)))], mkM []⟩ := by exact fr
  cases hb : decide ((i : Int) < (M.length : Int))
  · (repeat' (first | refine CQ.seq ?_ | refine CQ.block ?_ | ((first | apply CQ.rT hU | apply CQ.rD hU); (· (repeat (first | exact RunL.nil | (apply RunL.op; (first | ((first | apply sv | (apply gv; (· rfl); (· rfl)) | (apply gvB; (· rfl); (· rfl); (· assumption))); (first | exact (lnG (G := GS) rfl rfl rfl) | exact vv)) | exact gn rfl rfl rfl | exact gnU rfl rfl | exact gnB rfl rfl (by assumption) rfl | exact so oo | exact gR rfl rfl oo | exact so rr | exact gR rfl rfl rr | exact gRB rfl rfl (by assumption) oo | exact gRB rfl rfl (by assumption) rr))))); (· kernel_rfl); clear hU; intro hU) | refine CQ.condT rfl ?_ | refine CQ.condF rfl ?_ | refine CQ.condT (hbl ‹_›) ?_ | refine CQ.condF (hbl ‹_›) ?_ | refine CQ.ret ?_ | refine CQ.skip ?_ | refine CQ.exit ?_ | (apply CQ.cond rfl <;> intro hb)))
    (repeat' (first | (apply retC; (first | (apply RetA.tmp; (repeat' (first | exact rfl | exact wE rfl rfl | exact wNV rfl | exact wLV rfl | exact wMs rfl rfl rfl rfl rfl | exact wCv rfl rfl | exact wCv' rfl rfl | exact wNil rfl rfl | exact wF rfl (LeC.fl _) | exact wF rfl (LeC.refl _) | apply wV5 rfl | apply wCv rfl | apply wCv' rfl | apply wE rfl | apply wMs rfl rfl rfl rfl | refine wMs rfl rfl ?_ rfl ?_))) | (apply RetA.cellS rfl rfl rfl rfl rfl; (repeat' (first | exact rfl | exact wE rfl rfl | exact wNV rfl | exact wLV rfl | exact wMs rfl rfl rfl rfl rfl | exact wCv rfl rfl | exact wCv' rfl rfl | exact wNil rfl rfl | exact wF rfl (LeC.fl _) | exact wF rfl (LeC.refl _) | apply wV5 rfl | apply wCv rfl | apply wCv' rfl | apply wE rfl | apply wMs rfl rfl rfl rfl | refine wMs rfl rfl ?_ rfl ?_))) | (apply RetA.cellW rfl rfl rfl rfl rfl; (repeat' (first | exact rfl | exact wE rfl rfl | exact wNV rfl | exact wLV rfl | exact wMs rfl rfl rfl rfl rfl | exact wCv rfl rfl | exact wCv' rfl rfl | exact wNil rfl rfl | exact wF rfl (LeC.fl _) | exact wF rfl (LeC.refl _) | apply wV5 rfl | apply wCv rfl | apply wCv' rfl | apply wE rfl | apply wMs rfl rfl rfl rfl | refine wMs rfl rfl ?_ rfl ?_))))) | exact retN))
  have hi' : i < M.length := by simpa using hb
  have gi := gy (G := GS) (List.getElem?_eq_getElem hi')
  have hMi := List.getElem?_eq_getElem hi'
  generalize M[i] = mi at gi hMi
  have e2 : (!(wf mi == wf mi)) = false := by simp
  have hw : IntKind.i64.wrap ((i : Int) + 1) = ((i + 1 : Nat) : Int) := wrap_id (by omega) (by omega)
  cases h3 : decide ((i : Int) > 0)
  · (repeat' (first | refine CQ.seq ?_ | refine CQ.block ?_ | ((first | apply CQ.rT hU | apply CQ.rD hU); (· (repeat (first | exact RunL.nil | (apply RunL.op; (first | ((first | apply sv | (apply gv; (· rfl); (· rfl)) | (apply gvB; (· rfl); (· rfl); (· assumption))); (first | exact (lnG (G := GS) rfl rfl rfl) | exact (.idxC rfl rfl (by omega) (by exact gi) rfl rfl rfl rfl) | exact .callP rfl rfl ta ((wA mi)) | exact .callP rfl rfl ta ((wR mi)) | exact vv)) | exact gn rfl rfl rfl | exact gnU rfl rfl | exact gnB rfl rfl (by assumption) rfl | exact so oo | exact gR rfl rfl oo | exact so rr | exact gR rfl rfl rr | exact gRB rfl rfl (by assumption) oo | exact gRB rfl rfl (by assumption) rr))))); (· kernel_rfl); clear hU; intro hU) | refine CQ.condT rfl ?_ | refine CQ.condF rfl ?_ | refine CQ.condT (hbl ‹_›) ?_ | refine CQ.condF (hbl ‹_›) ?_ | refine CQ.ret ?_ | refine CQ.skip ?_ | refine CQ.exit ?_ | (apply CQ.cond rfl <;> intro hb)))
    refine ⟨i + 1, by omega, by omega, ?_⟩
    (refine wkS ?_ ?_; (all_goals (repeat' (first | exact wkB | refine wkP ?_ ?_ | exact wkMB | refine wkMP rfl ?_ ?_ | exact wkOr rfl | exact wkB0 | refine wkBx ?_ ?_ | refine wkOa ?_ | exact wr rfl | exact wE rfl rfl | exact wNV rfl | exact wLV rfl | exact wMs rfl rfl rfl rfl rfl | exact wCv rfl rfl | exact wCv' rfl rfl | exact wNil rfl rfl | exact wF rfl (LeC.fl _) | apply wV5 rfl | apply wCv rfl | apply wCv' rfl | apply wE rfl | apply wMs rfl rfl rfl rfl | refine wMs rfl rfl ?_ rfl ?_))))
    · rw [hw]
  · obtain ⟨q, rfl⟩ : ∃ q, i = q + 1 := ⟨i - 1, by simp at h3; omega⟩
    have hq : q < M.length := by omega
    have hMq := List.getElem?_eq_getElem hq
    have gq := gy (G := GS) hMq
    generalize M[q] = mq at gq hMq
    have hlt := sorted_at hso hMq hMi
    have hwq : IntKind.i64.wrap (((q + 1 : Nat) : Int) - 1) = (q : Int) := by rw [wrap_id (by omega) (by omega)]; omega
    have gq' : (M.map GS.g)[(IntKind.i64.wrap (((q + 1 : Nat) : Int) - 1)).toNat]? = some (GS.g mq) := by rw [hwq]; exact gq
    have e3 : (!Op.bytesLess mq.toList mi.toList) = false := by rw [hlt]; rfl
    (repeat' (first | refine CQ.seq ?_ | refine CQ.block ?_ | ((first | apply CQ.rT hU | apply CQ.rD hU); (· (repeat (first | exact RunL.nil | (apply RunL.op; (first | ((first | apply sv | (apply gv; (· rfl); (· rfl)) | (apply gvB; (· rfl); (· rfl); (· assumption))); (first | exact (lnG (G := GS) rfl rfl rfl) | exact (.idxC rfl rfl (by omega) (by exact gi) rfl rfl rfl rfl) | exact (.idxC rfl rfl (by rw [hwq]; omega) (by exact gq') rfl rfl rfl rfl) | exact .callP rfl rfl ta ((wA mi)) | exact .callP rfl rfl ta ((wR mi)) | exact vv)) | exact gn rfl rfl rfl | exact gnU rfl rfl | exact gnB rfl rfl (by assumption) rfl | exact so oo | exact gR rfl rfl oo | exact so rr | exact gR rfl rfl rr | exact gRB rfl rfl (by assumption) oo | exact gRB rfl rfl (by assumption) rr))))); (· kernel_rfl); clear hU; intro hU) | refine CQ.condT rfl ?_ | refine CQ.condF rfl ?_ | refine CQ.condT (hbl ‹_›) ?_ | refine CQ.condF (hbl ‹_›) ?_ | refine CQ.ret ?_ | refine CQ.skip ?_ | refine CQ.exit ?_ | (apply CQ.cond rfl <;> intro hb)))
    refine ⟨q + 2, by omega, by omega, ?_⟩
    (refine wkS ?_ ?_; (all_goals (repeat' (first | exact wkB | refine wkP ?_ ?_ | exact wkMB | refine wkMP rfl ?_ ?_ | exact wkOr rfl | exact wkB0 | refine wkBx ?_ ?_ | refine wkOa ?_ | exact wr rfl | exact wE rfl rfl | exact wNV rfl | exact wLV rfl | exact wMs rfl rfl rfl rfl rfl | exact wCv rfl rfl | exact wCv' rfl rfl | exact wNil rfl rfl | exact wF rfl (LeC.fl _) | apply wV5 rfl | apply wCv rfl | apply wCv' rfl | apply wE rfl | apply wMs rfl rfl rfl rfl | refine wMs rfl rfl ?_ rfl ?_))))
    · rw [hw]
end Go.Proofs.Ytbjcckjhfjhicaa
