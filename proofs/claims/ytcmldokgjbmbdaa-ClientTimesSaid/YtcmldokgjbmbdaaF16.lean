/- Walks: a client's methods under the names that a caller has; the chapter's example. -/
import Derived.Test.YtcmldokgjbmbdaaF15
namespace Go.Proofs.Ytcmldokgjbmbdaa
open Go Go.AM
set_option linter.unusedVariables false
set_option maxHeartbeats 4000000
set_option maxRecDepth 100000
set_option linter.unusedSimpArgs false

abbrev Apart (l : List (Nat × Nat)) : Prop := ∀ p ∈ l, ∀ q ∈ l, p.2 = q.2 → p.1 = q.1
theorem call_o (B a c d e : Nat) (st : St) (g mth : ByteArray) (l : List V) (n m n' m' : Nat) (hd : Apart [(1000000, B), (1000001, a), (1000002, c), (201, d), (202, e)]) (hn : st.os.length = n) (hm : st.rs.length = m) (hn' : (callS st g mth l).1.os.length = n') (hm' : (callS st g mth l).1.rs.length = m') (hn4 : n ≤ 4) :
    Own env.P 8 [.loc B 0, .c (.v (.string g)), .c (.v (.string mth)), .c (.sl 5 (l.map V.cv))] [(B, .box [.c (.v (.int .u32 st.id)), .c (.v (.int .u32 st.seq)), .ms a n, .ms c m]), (a, .arr 8 72 (st.os.map GN.g)), (c, .arr 9 39 (st.rs.map GP.g))]
      [.c (.agg (callS st g mth l).2.1.cc), .c (.v (.int .i64 (callS st g mth l).2.2))] [(B, .box [.c (.v (.int .u32 (callS st g mth l).1.id)), .c (.v (.int .u32 (callS st g mth l).1.seq)), .ms d n', .ms e m']), (d, .arr 8 72 ((callS st g mth l).1.os.map GN.g)), (e, .arr 9 39 ((callS st g mth l).1.rs.map GP.g))] :=
  (call_b st g mth l n m n' m' hn hm hn' hm' hn4).as _ hd (.cons (.loc rfl) (.cons (.c _) (.cons (.c _) (.cons (.c _) .nil)))) renm rens renm
theorem recv_o (B a c d e : Nat) (st : St) (r : RepS) (n m n' m' : Nat) (hd : Apart [(1000000, B), (1000001, a), (1000002, c), (201, d), (202, e)]) (hn : st.os.length = n) (hm : st.rs.length = m) (hn' : (recvS st r).1.os.length = n') (hm' : (recvS st r).1.rs.length = m') (hn4 : n ≤ 4) (hm1 : m ≤ 100000) (hr : smallS r.v = true) :
    Own env.P 9 [.loc B 0, .c (.agg r.cc)] [(B, .box [.c (.v (.int .u32 st.id)), .c (.v (.int .u32 st.seq)), .ms a n, .ms c m]), (a, .arr 8 72 (st.os.map GN.g)), (c, .arr 9 39 (st.rs.map GP.g))] [.c (.v (.bool (recvS st r).2))] [(B, .box [.c (.v (.int .u32 (recvS st r).1.id)), .c (.v (.int .u32 (recvS st r).1.seq)), .ms d n', .ms e m']), (d, .arr 8 72 ((recvS st r).1.os.map GN.g)), (e, .arr 9 39 ((recvS st r).1.rs.map GP.g))] :=
  (recv_b st r n m n' m' hn hm hn' hm' hn4 hm1 hr).as _ hd (.cons (.loc rfl) (.cons (.c _) .nil)) renm rens renm
theorem tick_o (B a c d e : Nat) (st : St) (n m n' m' : Nat) (hd : Apart [(1000000, B), (1000001, a), (1000002, c), (201, d), (202, e)]) (hn : st.os.length = n) (hm : st.rs.length = m) (hn' : (tickS st).os.length = n') (hm' : (tickS st).rs.length = m') (hn4 : n ≤ 4) (hm1 : m ≤ 1000) :
    Own env.P 12 [.loc B 0] [(B, .box [.c (.v (.int .u32 st.id)), .c (.v (.int .u32 st.seq)), .ms a n, .ms c m]), (a, .arr 8 72 (st.os.map GN.g)), (c, .arr 9 39 (st.rs.map GP.g))] [] [(B, .box [.c (.v (.int .u32 (tickS st).id)), .c (.v (.int .u32 (tickS st).seq)), .ms d n', .ms e m']), (d, .arr 8 72 ((tickS st).os.map GN.g)), (e, .arr 9 39 ((tickS st).rs.map GP.g))] :=
  (tick_b st n m n' m' hn hm hn' hm' hn4 hm1).as _ hd (.cons (.loc rfl) .nil) renm rens renm
theorem open_o (B a c : Nat) (st : St) (n m : Nat) (hd : Apart [(1000000, B), (1000001, a), (1000002, c)]) (hn : st.os.length = n) (hm : st.rs.length = m) (hn4 : n ≤ 4) :
    Own env.P 10 [.loc B 0] [(B, .box [.c (.v (.int .u32 st.id)), .c (.v (.int .u32 st.seq)), .ms a n, .ms c m]), (a, .arr 8 72 (st.os.map GN.g)), (c, .arr 9 39 (st.rs.map GP.g))] [.c (.sl 3 ((st.os.map (·.o.id)).map GD.g))] [(B, .box [.c (.v (.int .u32 st.id)), .c (.v (.int .u32 st.seq)), .ms a n, .ms c m]), (a, .arr 8 72 (st.os.map GN.g)), (c, .arr 9 39 (st.rs.map GP.g))] :=
  (open_b st n m hn hm hn4).as _ hd (.cons (.loc rfl) .nil) renm rens renm
theorem replies_o (B a c : Nat) (st : St) (n m : Nat) (hd : Apart [(1000000, B), (1000001, a), (1000002, c)]) (hn : st.os.length = n) (hm : st.rs.length = m) (hm1 : m ≤ 100000) (hv : ∀ r ∈ st.rs, smallS r.v = true ∧ cleanS r.v = r.v) :
    Own env.P 13 [.loc B 0] [(B, .box [.c (.v (.int .u32 st.id)), .c (.v (.int .u32 st.seq)), .ms a n, .ms c m]), (a, .arr 8 72 (st.os.map GN.g)), (c, .arr 9 39 (st.rs.map GP.g))] [.c (.sl 9 (st.rs.map GP.g))] [(B, .box [.c (.v (.int .u32 st.id)), .c (.v (.int .u32 st.seq)), .ms a n, .ms c m]), (a, .arr 8 72 (st.os.map GN.g)), (c, .arr 9 39 (st.rs.map GP.g))] :=
  (replies_b st n m hn hm hm1 hv).as _ hd (.cons (.loc rfl) .nil) renm rens renm
theorem out_o (B a c : Nat) (st : St) (n m : Nat) (hd : Apart [(1000000, B), (1000001, a), (1000002, c)]) (hn : st.os.length = n) (hm : st.rs.length = m) (hn4 : n ≤ 4) (ha : ∀ x ∈ st.os, x.o.a.length ≤ 16 ∧ ∀ v ∈ x.o.a, smallS v = true ∧ cleanS v = v) :
    Own env.P 11 [.loc B 0] [(B, .box [.c (.v (.int .u32 st.id)), .c (.v (.int .u32 st.seq)), .ms a n, .ms c m]), (a, .arr 8 72 (st.os.map GN.g)), (c, .arr 9 39 (st.rs.map GP.g))] [.c (.sl 6 ((outL st.os).map GO.g))] [(B, .box [.c (.v (.int .u32 (outS st).id)), .c (.v (.int .u32 (outS st).seq)), .ms a n, .ms c m]), (a, .arr 8 72 ((outS st).os.map GN.g)), (c, .arr 9 39 ((outS st).rs.map GP.g))] :=
  (out_b st n m hn hm hn4 ha).as _ hd (.cons (.loc rfl) .nil) renm rens renm
theorem bare_toC (a : IdS) (e : Int) : ToC (.agg [.c (.v (.int .u32 a.c)), .c (.v (.int .u32 a.s)), .c (.v (.int .u16 a.n)), .c (.v (.int .i64 e)), .c (.v (.int .i64 0)), .c (.v (.int .i64 0)), .c (.v (.float .f64 0)), .c (.v (.string ⟨#[]⟩)), .c (.v (.slice none 0 0))]) (.agg (RepS.cc ⟨a, e, nilV⟩)) :=
  .aggs (.cons (.c (.refl _)) (.cons (.c (.refl _)) (.cons (.c (.refl _)) (.cons (.c (.refl _)) (.cons (.c (.refl _)) (.cons (.c (.refl _)) (.cons (.c (.fl _)) (.cons (.c (.refl _)) (.cons (.c (.nil 5 (by decide))) .nil)))))))))

/-! the example -/
def sG : ByteArray := ⟨#[103]⟩
def sM : ByteArray := ⟨#[109]⟩
theorem name_sG : nameS sG = true := by unfold nameS; simp only [ByteArray.toList_eq]; rfl
theorem name_sM : nameS sM = true := by unfold nameS; simp only [ByteArray.toList_eq]; rfl
theorem name_s0 : nameS s0 = false := by unfold nameS; simp only [ByteArray.toList_eq]; rfl
def k0 : St := ⟨7, 0, [], []⟩
def kop : OpS := ⟨⟨7, 1, 0⟩, sG, sM, [intV' 1]⟩
def k1 : St := ⟨7, 1, [⟨kop, 0, true⟩], []⟩
def k2 : St := ⟨7, 1, [⟨kop, 0, false⟩], []⟩
def krep : RepS := ⟨⟨7, 1, 0⟩, 0, intV' 2⟩
def k3 : St := ⟨7, 1, [], [krep]⟩
theorem k_call : callS k0 sG sM [intV' 1] = (k1, ⟨7, 1, 0⟩, 0) := by
  have hb : badS sG sM [intV' 1] = false := by
    unfold badS
    rw [name_sG, name_sM]
    show ([intV' 1].any fun v => checkS v != 0) = false
    kernel_rfl
  unfold callS
  rw [hb]
  have : cleanS (intV' 1) = intV' 1 := by kernel_rfl
  simp only [Bool.false_eq_true, if_false]
  unfold newOp
  simp only [List.map_cons, List.map_nil, this]
  rfl
theorem k_bad : callS k1 s0 sM [] = (k1, zeroId, 31) := by
  unfold callS badS
  rw [name_s0]
  rfl
theorem k_out : outS k1 = k2 := rfl
theorem k_busy : recvS k2 ⟨⟨7, 1, 0⟩, 42, nilV⟩ = (k2, false) := rfl
theorem k_ans : recvS k2 krep = (k3, true) := by
  have : cleanS (intV' 2) = intV' 2 := by kernel_rfl
  show (ansS k2 0 krep, true) = _
  unfold ansS ansR
  rw [show krep.v = intV' 2 from rfl, this]
  rfl
theorem known29_c : Pure env.P 6 [] [.v (.bool true)] := by
  have h0 := new_o 100 7 3
  have h1 := call_o 100 101 102 103 104 k0 sG sM [intV' 1] 0 0 1 0 (by decide) rfl rfl (by rw [k_call]; rfl) (by rw [k_call]; rfl) (by decide)
  rw [k_call] at h1
  have h2 := call_o 100 103 104 105 106 k1 s0 sM [] 1 0 1 0 (by decide) rfl rfl (by rw [k_bad]; rfl) (by rw [k_bad]; rfl) (by decide)
  rw [k_bad] at h2
  have h3 := out_o 100 105 106 k1 1 0 (by decide) rfl rfl (by decide) (by
    intro x hx
    simp only [k1, List.mem_singleton] at hx
    subst hx
    refine ⟨by decide, fun v hv => ?_⟩
    simp only [kop, List.mem_singleton] at hv
    subst hv
    exact ⟨by kernel_rfl, by kernel_rfl⟩)
  rw [k_out] at h3
  have h4 := recv_o 100 105 106 107 108 k2 ⟨⟨7, 1, 0⟩, 42, nilV⟩ 1 0 1 0 (by decide) rfl rfl (by rw [k_busy]; rfl) (by rw [k_busy]; rfl) (by decide) (by decide) nil_small.1
  rw [k_busy] at h4
  have h5 := recv_o 100 107 108 109 110 k2 krep 1 0 0 1 (by decide) rfl rfl (by rw [k_ans]; rfl) (by rw [k_ans]; rfl) (by decide) (by decide) (by kernel_rfl)
  rw [k_ans] at h5
  have h6 := replies_o 100 109 110 k3 0 1 (by decide) rfl rfl (by decide) (by
    intro r hr
    simp only [k3, List.mem_singleton] at hr
    subst hr
    exact ⟨by kernel_rfl, by kernel_rfl⟩)
  have h7 := out_o 100 109 110 k3 0 1 (by decide) rfl rfl (by decide) (by intro x hx; simp [k3] at hx)
  rw [show outS k3 = k3 from rfl] at h7
  have h8 := open_o 100 109 110 k3 0 1 (by decide) rfl rfl (by decide)
  refine Pure.go (E := env) Try.func6 rfl rfl rfl (Nat.le_of_ble_eq_true rfl) (Nat.le_of_ble_eq_true rfl) ?_; rintro ⟨w0, T0, L0, n, r0, hn0, hT0⟩ hn hT hU; obtain rfl : n = _ := hn
  (repeat' (first | refine CQ.seq ?_ | refine CQ.block ?_ | ((first | apply CQ.rT hU | apply CQ.rD hU); (· (repeat (first | exact RunL.nil | (apply RunL.op; (first | ((first | apply sv | (apply gv; (· rfl); (· rfl)) | (apply gvB; (· rfl); (· rfl); (· assumption))); (first | exact vv)) | exact gn rfl rfl rfl | exact gnU rfl rfl | exact gnB rfl rfl (by assumption) rfl | exact so ((coG rfl h0 .nil rfl rfl rfl rfl rfl tas)) | exact gR rfl rfl ((coG rfl h0 .nil rfl rfl rfl rfl rfl tas)) | exact gRB rfl rfl (by assumption) ((coG rfl h0 .nil rfl rfl rfl rfl rfl tas)) | exact so oo | exact gR rfl rfl oo | exact so rr | exact gR rfl rfl rr | exact gRB rfl rfl (by assumption) oo | exact gRB rfl rfl (by assumption) rr))))); (· kernel_rfl); clear hU; intro hU) | refine CQ.condT rfl ?_ | refine CQ.condF rfl ?_ | refine CQ.condT (hbl ‹_›) ?_ | refine CQ.condF (hbl ‹_›) ?_ | refine CQ.ret ?_ | refine CQ.skip ?_ | refine CQ.exit ?_ | (apply CQ.cond rfl <;> intro hb)))
  refine CQ.adopt 101 8 72 [100] [(1, .loc 100 0)] [(1, .loc 100 0)] [(100, .box [.c (.v (.int .u32 7)), .c (.v (.int .u32 0)), .c (.v (.slice none 0 0)), .c (.v (.slice none 0 0))])] [(100, .box [.c (.v (.int .u32 7)), .c (.v (.int .u32 0)), .ms 101 0, .c (.v (.slice none 0 0))])] hT (by (refine wkS ?_ ?_; (all_goals (repeat' (first | exact wkB | refine wkP ?_ ?_ | exact wkMB | refine wkMP rfl ?_ ?_ | exact wkOr rfl | exact wkB0 | refine wkBx ?_ ?_ | refine wkOa ?_ | exact wr rfl | exact wE rfl rfl | exact wNV rfl | exact wLV rfl | exact wMs rfl rfl rfl rfl rfl | exact wCv rfl rfl | exact wCv' rfl rfl | exact wNil rfl rfl | exact wF rfl (LeC.fl _) | apply wV5 rfl | apply wCv rfl | apply wCv' rfl | apply wE rfl | apply wMs rfl rfl rfl rfl | refine wMs rfl rfl ?_ rfl ?_))))) fr rfl rfl rfl (by repeat (first | exact AdT.nil | exact AdT.cons (.refl _) (by assumption) | refine AdT.cons .nil ?_ | refine AdT.cons (.refl _) ?_)) (by repeat' (first | exact AdM.nil | refine AdM.cons (.refl _) rfl ?_ | refine AdM.cons (.box ?_) rfl ?_ | exact AdC.nil | refine AdC.cons .nil ?_ | refine AdC.cons (.refl _) ?_)) ?_
  refine CQ.adopt 102 9 39 [100, 101] [(1, .loc 100 0)] [(1, .loc 100 0)] [(100, .box [.c (.v (.int .u32 7)), .c (.v (.int .u32 0)), .ms 101 0, .c (.v (.slice none 0 0))]), (101, .arr 8 72 [])] [(100, .box [.c (.v (.int .u32 7)), .c (.v (.int .u32 0)), .ms 101 0, .ms 102 0]), (101, .arr 8 72 [])] hT (by (refine wkS ?_ ?_; (all_goals (repeat' (first | exact wkB | refine wkP ?_ ?_ | exact wkMB | refine wkMP rfl ?_ ?_ | exact wkOr rfl | exact wkB0 | refine wkBx ?_ ?_ | refine wkOa ?_ | exact wr rfl | exact wE rfl rfl | exact wNV rfl | exact wLV rfl | exact wMs rfl rfl rfl rfl rfl | exact wCv rfl rfl | exact wCv' rfl rfl | exact wNil rfl rfl | exact wF rfl (LeC.fl _) | apply wV5 rfl | apply wCv rfl | apply wCv' rfl | apply wE rfl | apply wMs rfl rfl rfl rfl | refine wMs rfl rfl ?_ rfl ?_))))) fr rfl rfl rfl (by repeat (first | exact AdT.nil | exact AdT.cons (.refl _) (by assumption) | refine AdT.cons .nil ?_ | refine AdT.cons (.refl _) ?_)) (by repeat' (first | exact AdM.nil | refine AdM.cons (.refl _) rfl ?_ | refine AdM.cons (.box ?_) rfl ?_ | exact AdC.nil | refine AdC.cons .nil ?_ | refine AdC.cons (.refl _) ?_)) ?_
  have hU : Fresh [100, 101, 102] ⟨mkT [(1, .loc 100 0)], mkM [(102, .arr 9 39 []), (100, .box [.c (.v (.int .u32 7)), .c (.v (.int .u32 0)), .ms 101 0, .ms 102 0]), (101, .arr 8 72 [])]⟩ := by exact fr
  have hb := bare_toC ⟨7, 1, 0⟩ 42
  (repeat' (first | refine CQ.seq ?_ | refine CQ.block ?_ | ((first | apply CQ.rT hU | apply CQ.rD hU); (· (repeat (first | exact RunL.nil | (apply RunL.op; (first | ((first | apply sv | (apply gv; (· rfl); (· rfl)) | (apply gvB; (· rfl); (· rfl); (· assumption))); (first | exact (.loadLA rfl rfl rfl rfl (Nat.le_of_ble_eq_true rfl)) | exact .callP rfl rfl ta ((int_c 1)) | exact .callP rfl rfl ta ((int_c 2)) | exact (lnG (G := GO) rfl rfl rfl) | exact (lnG (G := GP) rfl rfl rfl) | exact (lnG (G := GD) rfl rfl rfl) | exact vv)) | exact gn rfl rfl rfl | exact gnU rfl rfl | exact gnB rfl rfl (by assumption) rfl | exact so ((coG rfl h1 (.cons rfl (.cons rfl (.cons rfl .nil))) rfl rfl rfl rfl rfl tas)) | exact gR rfl rfl ((coG rfl h1 (.cons rfl (.cons rfl (.cons rfl .nil))) rfl rfl rfl rfl rfl tas)) | exact gRB rfl rfl (by assumption) ((coG rfl h1 (.cons rfl (.cons rfl (.cons rfl .nil))) rfl rfl rfl rfl rfl tas)) | exact so ((coG rfl h2 (.cons rfl (.cons rfl (.cons rfl .nil))) rfl rfl rfl rfl rfl tas)) | exact gR rfl rfl ((coG rfl h2 (.cons rfl (.cons rfl (.cons rfl .nil))) rfl rfl rfl rfl rfl tas)) | exact gRB rfl rfl (by assumption) ((coG rfl h2 (.cons rfl (.cons rfl (.cons rfl .nil))) rfl rfl rfl rfl rfl tas)) | exact so ((coG rfl h3 (.cons rfl (.cons rfl (.cons rfl .nil))) rfl rfl rfl rfl rfl tas)) | exact gR rfl rfl ((coG rfl h3 (.cons rfl (.cons rfl (.cons rfl .nil))) rfl rfl rfl rfl rfl tas)) | exact gRB rfl rfl (by assumption) ((coG rfl h3 (.cons rfl (.cons rfl (.cons rfl .nil))) rfl rfl rfl rfl rfl tas)) | exact so ((coG rfl h4 (.cons rfl (.cons rfl (.cons rfl .nil))) rfl rfl rfl rfl rfl (.cons (aR rfl) (.cons (.c hb) .nil)))) | exact gR rfl rfl ((coG rfl h4 (.cons rfl (.cons rfl (.cons rfl .nil))) rfl rfl rfl rfl rfl (.cons (aR rfl) (.cons (.c hb) .nil)))) | exact gRB rfl rfl (by assumption) ((coG rfl h4 (.cons rfl (.cons rfl (.cons rfl .nil))) rfl rfl rfl rfl rfl (.cons (aR rfl) (.cons (.c hb) .nil)))) | exact so ((coG rfl h5 (.cons rfl (.cons rfl (.cons rfl .nil))) rfl rfl rfl rfl rfl (.cons (aR rfl) (.cons (.c (toP krep rfl)) .nil)))) | exact gR rfl rfl ((coG rfl h5 (.cons rfl (.cons rfl (.cons rfl .nil))) rfl rfl rfl rfl rfl (.cons (aR rfl) (.cons (.c (toP krep rfl)) .nil)))) | exact gRB rfl rfl (by assumption) ((coG rfl h5 (.cons rfl (.cons rfl (.cons rfl .nil))) rfl rfl rfl rfl rfl (.cons (aR rfl) (.cons (.c (toP krep rfl)) .nil)))) | exact so ((coG rfl h6 (.cons rfl (.cons rfl (.cons rfl .nil))) rfl rfl rfl rfl rfl tas)) | exact gR rfl rfl ((coG rfl h6 (.cons rfl (.cons rfl (.cons rfl .nil))) rfl rfl rfl rfl rfl tas)) | exact gRB rfl rfl (by assumption) ((coG rfl h6 (.cons rfl (.cons rfl (.cons rfl .nil))) rfl rfl rfl rfl rfl tas)) | exact so ((coG rfl h7 (.cons rfl (.cons rfl (.cons rfl .nil))) rfl rfl rfl rfl rfl tas)) | exact gR rfl rfl ((coG rfl h7 (.cons rfl (.cons rfl (.cons rfl .nil))) rfl rfl rfl rfl rfl tas)) | exact gRB rfl rfl (by assumption) ((coG rfl h7 (.cons rfl (.cons rfl (.cons rfl .nil))) rfl rfl rfl rfl rfl tas)) | exact so ((coG rfl h8 (.cons rfl (.cons rfl (.cons rfl .nil))) rfl rfl rfl rfl rfl tas)) | exact gR rfl rfl ((coG rfl h8 (.cons rfl (.cons rfl (.cons rfl .nil))) rfl rfl rfl rfl rfl tas)) | exact gRB rfl rfl (by assumption) ((coG rfl h8 (.cons rfl (.cons rfl (.cons rfl .nil))) rfl rfl rfl rfl rfl tas)) | exact so ((eqI ⟨7, 1, 0⟩ ⟨7, 1, 0⟩ (toI (.inr rfl)) (toI (.inr rfl)))) | exact gR rfl rfl ((eqI ⟨7, 1, 0⟩ ⟨7, 1, 0⟩ (toI (.inr rfl)) (toI (.inr rfl)))) | exact gRB rfl rfl (by assumption) ((eqI ⟨7, 1, 0⟩ ⟨7, 1, 0⟩ (toI (.inr rfl)) (toI (.inr rfl)))) | exact so oo | exact gR rfl rfl oo | exact so rr | exact gR rfl rfl rr | exact gRB rfl rfl (by assumption) oo | exact gRB rfl rfl (by assumption) rr))))); (· kernel_rfl); clear hU; intro hU) | refine CQ.condT rfl ?_ | refine CQ.condF rfl ?_ | refine CQ.condT (hbl ‹_›) ?_ | refine CQ.condF (hbl ‹_›) ?_ | refine CQ.ret ?_ | refine CQ.skip ?_ | refine CQ.exit ?_ | (apply CQ.cond rfl <;> intro hb)))
  (repeat' (first | (apply retC; (first | (apply RetA.tmp; (repeat' (first | exact rfl | exact wE rfl rfl | exact wNV rfl | exact wLV rfl | exact wMs rfl rfl rfl rfl rfl | exact wCv rfl rfl | exact wCv' rfl rfl | exact wNil rfl rfl | exact wF rfl (LeC.fl _) | exact wF rfl (LeC.refl _) | apply wV5 rfl | apply wCv rfl | apply wCv' rfl | apply wE rfl | apply wMs rfl rfl rfl rfl | refine wMs rfl rfl ?_ rfl ?_))) | (apply RetA.cellS rfl rfl rfl rfl rfl; (repeat' (first | exact rfl | exact wE rfl rfl | exact wNV rfl | exact wLV rfl | exact wMs rfl rfl rfl rfl rfl | exact wCv rfl rfl | exact wCv' rfl rfl | exact wNil rfl rfl | exact wF rfl (LeC.fl _) | exact wF rfl (LeC.refl _) | apply wV5 rfl | apply wCv rfl | apply wCv' rfl | apply wE rfl | apply wMs rfl rfl rfl rfl | refine wMs rfl rfl ?_ rfl ?_))) | (apply RetA.cellW rfl rfl rfl rfl rfl; (repeat' (first | exact rfl | exact wE rfl rfl | exact wNV rfl | exact wLV rfl | exact wMs rfl rfl rfl rfl rfl | exact wCv rfl rfl | exact wCv' rfl rfl | exact wNil rfl rfl | exact wF rfl (LeC.fl _) | exact wF rfl (LeC.refl _) | apply wV5 rfl | apply wCv rfl | apply wCv' rfl | apply wE rfl | apply wMs rfl rfl rfl rfl | refine wMs rfl rfl ?_ rfl ?_))))) | exact retN))
end Go.Proofs.Ytcmldokgjbmbdaa
