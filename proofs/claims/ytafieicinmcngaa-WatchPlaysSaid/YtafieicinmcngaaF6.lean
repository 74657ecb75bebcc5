/- Walks: any script of ticks and heartbeats. -/
import Derived.Test.YtafieicinmcngaaF4
import Derived.Test.YtafieicinmcngaaT
namespace Go.Proofs.Ytafieicinmcngaa
open Go Go.AM
set_option linter.unusedVariables false
set_option maxHeartbeats 4000000
set_option maxRecDepth 100000

def GP : Elt (Int × Int) := ⟨fun p => .agg [.v (.int .i64 p.1), .v (.int .i64 p.2)], 2, by decide, fun _ => rfl, fun _ => rfl, fun a c hc => by simp [CV.cells] at hc; rcases hc with rfl | rfl <;> rfl⟩
/-- The ages and this node of a watch that is right. -/
structure WOk (se : Int) (l : List Int) : Prop where
  s0 : 0 ≤ se
  sn : se < l.length
  n9 : l.length ≤ 7
theorem WOk.tick {self : Int} {l : List Int} (h : WOk self l) : WOk self (tickL self l) := ⟨h.s0, by rw [tickL_len]; exact h.sn, by rw [tickL_len]; exact h.n9⟩
theorem heardL_len (se : Int) (l : List Int) (k : Int) : (heardL se l k).length = l.length := by unfold heardL; split <;> simp
theorem WOk.heard {self : Int} {l : List Int} (h : WOk self l) (k : Int) : WOk self (heardL self l k) := ⟨h.s0, by rw [heardL_len]; exact h.sn, by rw [heardL_len]; exact h.n9⟩
theorem WOk.new (self n : Int) : WOk (selfN self n) (zeros n) := by
  have h1 := selfN_bd self n
  have h2 := nodesN_bd n
  exact ⟨h1.1, by rw [zeros_len]; exact h1.2, by rw [zeros_len]; omega⟩
theorem ageOk_eq {self : Int} {l : List Int} (h : WOk self l) (k : Int) : ageOk self l.length k = (decide (k ≥ 0) && decide (k < l.length)) := by
  have h0 := h.s0
  have h1 := h.sn
  unfold ageOk otherS
  rw [Bool.eq_iff_iff]
  simp
  omega
theorem ticks_eq {T : Nat} (h : T ≤ 1000) : tick3 ((T % 3 : Nat) : Int) = (((T + 1) % 3 : Nat) : Int) ∧ IntKind.i64.wrap ((T : Int) + 1) = ((T + 1 : Nat) : Int) ∧ tickR3 (T : Int) = ((((T + 1) % 3 : Nat) : Int) == 0) := by
  have hw : IntKind.i64.wrap ((T : Int) + 1) = ((T + 1 : Nat) : Int) := wrap_id (by omega) (by omega)
  refine ⟨by rw [tick3_small (by omega) (by omega)]; omega, hw, ?_⟩
  unfold tickR3
  rw [hw, Int.tmod_eq_emod_of_nonneg (by omega)]
  rfl

abbrev wT (self n ask : Int) (l : List (IntR .i16)) (ps : List (Int × Int)) (j : Nat) : List (Nat × AV) :=
  [(0, .c (.v (.int .i64 self))), (1, .c (.v (.int .i64 n))), (2, .c (.sl 1 (l.map (GR .i16).g))), (3, .c (.v (.int .i64 ask))), (32, .c (.sl 2 (ps.map GP.g))), (33, .c (.v (.int .i64 ps.length))), (34, .c (.v (.int .i64 j)))]
abbrev wM (sf : Int) (T : Nat) (ages : List Int) (N : Nat) : List (Nat × Ob) := [(42, wbox sf ((T % 3 : Nat) : Int) 1042 N), (1042, wrow ages), (47, wbox sf (T : Int) 1047 N), (1047, wrow ages)]
theorem script_len {w : World} {L : Nat → Prop} {u : Value} {l : List (IntR .i16)} (h : Rep w L u (.sl 1 (l.map (GR .i16).g))) : l.length ≤ maxLen := gl_len (G := GR .i16) h
theorem watchPlays_c (self n : Int) (l : List (IntR .i16)) (ask : Int) : Pure env.P 3 [.v (.int .i64 self), .v (.int .i64 n), .sl 1 (l.map (GR .i16).g), .v (.int .i64 ask)] [.v (.bool true)] := by
  refine Pure.fact 2 rfl ⟨_, Try.func3, rfl, rfl⟩ (fun _ _ _ h => script_len h) ?_; intro hlen; refine Pure.go (E := env) Try.func3 rfl rfl rfl (Nat.le_of_ble_eq_true rfl) (Nat.le_of_ble_eq_true rfl) ?_; rintro ⟨w0, T0, L0, n, r0, hn0, hT0⟩ hn hT hU; obtain rfl : n = _ := hn
  have hkn := known_c
  cases h200 : decide ((l.length : Int) > 200)
  rotate_left
  · (repeat' (first | refine CQ.seq ?_ | refine CQ.block ?_ | ((first | apply CQ.rT hU | apply CQ.rD hU); (· (repeat (first | exact RunL.nil | (apply RunL.op; (first | ((first | apply sv | (apply gv; (· rfl); (· rfl)) | (apply gvB; (· rfl); (· rfl); (· assumption))); (first | exact .callP rfl rfl ta (hkn) | exact (lnG (G := GR .i16) rfl rfl rfl) | exact vv)) | exact gn rfl rfl rfl | exact gnU rfl rfl | exact gnB rfl rfl (by assumption) rfl | exact so oo | exact gR rfl rfl oo | exact so rr | exact gR rfl rfl rr | exact gRB rfl rfl (by assumption) oo | exact gRB rfl rfl (by assumption) rr))))); (· kernel_rfl); clear hU; intro hU) | refine CQ.condT rfl ?_ | refine CQ.condF rfl ?_ | refine CQ.condT (hbl ‹_›) ?_ | refine CQ.condF (hbl ‹_›) ?_ | refine CQ.ret ?_ | refine CQ.skip ?_ | refine CQ.exit ?_ | (apply CQ.cond rfl <;> intro hb)))
    (repeat' (first | (apply retC; (first | (apply RetA.tmp; (repeat' (first | exact rfl | exact wE rfl rfl | exact wNV rfl | exact wLV rfl | exact wMs rfl rfl rfl rfl rfl | exact wCv rfl rfl | exact wCv' rfl rfl | exact wNil rfl rfl | exact wF rfl (LeC.fl _) | exact wF rfl (LeC.refl _) | apply wV5 rfl | apply wCv rfl | apply wCv' rfl | apply wE rfl | apply wMs rfl rfl rfl rfl | refine wMs rfl rfl ?_ rfl ?_))) | (apply RetA.cellS rfl rfl rfl rfl rfl; (repeat' (first | exact rfl | exact wE rfl rfl | exact wNV rfl | exact wLV rfl | exact wMs rfl rfl rfl rfl rfl | exact wCv rfl rfl | exact wCv' rfl rfl | exact wNil rfl rfl | exact wF rfl (LeC.fl _) | exact wF rfl (LeC.refl _) | apply wV5 rfl | apply wCv rfl | apply wCv' rfl | apply wE rfl | apply wMs rfl rfl rfl rfl | refine wMs rfl rfl ?_ rfl ?_))) | (apply RetA.cellW rfl rfl rfl rfl rfl; (repeat' (first | exact rfl | exact wE rfl rfl | exact wNV rfl | exact wLV rfl | exact wMs rfl rfl rfl rfl rfl | exact wCv rfl rfl | exact wCv' rfl rfl | exact wNil rfl rfl | exact wF rfl (LeC.fl _) | exact wF rfl (LeC.refl _) | apply wV5 rfl | apply wCv rfl | apply wCv' rfl | apply wE rfl | apply wMs rfl rfl rfl rfl | refine wMs rfl rfl ?_ rfl ?_))))) | exact retN))
  have hl200 : l.length ≤ 200 := by simp at h200; omega
  (repeat' (first | refine CQ.seq ?_ | refine CQ.block ?_ | ((first | apply CQ.rT hU | apply CQ.rD hU); (· (repeat (first | exact RunL.nil | (apply RunL.op; (first | ((first | apply sv | (apply gv; (· rfl); (· rfl)) | (apply gvB; (· rfl); (· rfl); (· assumption))); (first | exact .callP rfl rfl ta (hkn) | exact (lnG (G := GR .i16) rfl rfl rfl) | exact (bsG (G := GP) (vs := [(self, n), (self.tmod 9, n.tmod 9)]) (.cons (tE rfl) (.cons (tE rfl) .nil)) rfl rfl rfl rfl rfl rfl rfl rfl) | exact (lnG (G := GP) rfl rfl rfl) | exact vv)) | exact gn rfl rfl rfl | exact gnU rfl rfl | exact gnB rfl rfl (by assumption) rfl | exact so oo | exact gR rfl rfl oo | exact so rr | exact gR rfl rfl rr | exact gRB rfl rfl (by assumption) oo | exact gRB rfl rfl (by assumption) rr))))); (· kernel_rfl); clear hU; intro hU) | refine CQ.condT rfl ?_ | refine CQ.condF rfl ?_ | refine CQ.condT (hbl ‹_›) ?_ | refine CQ.condF (hbl ‹_›) ?_ | refine CQ.ret ?_ | refine CQ.skip ?_ | refine CQ.exit ?_ | (apply CQ.cond rfl <;> intro hb)))
  refine CQ.loop hT (fun x : Nat => ⟨mkT (wT self n ask l [(self, n), (self.tmod 9, n.tmod 9)] x), mkM []⟩) (fun x => x ≤ 2) (fun x => 2 - x) 0 (Nat.zero_le _) ?_ ?_
  · (refine wkS ?_ ?_; (all_goals (repeat' (first | exact wkB | refine wkP ?_ ?_ | exact wkMB | refine wkMP rfl ?_ ?_ | exact wkOr rfl | exact wkB0 | refine wkBx ?_ ?_ | refine wkOa ?_ | exact wr rfl | exact wE rfl rfl | exact wNV rfl | exact wLV rfl | exact wMs rfl rfl rfl rfl rfl | exact wCv rfl rfl | exact wCv' rfl rfl | exact wNil rfl rfl | exact wF rfl (LeC.fl _) | apply wV5 rfl | apply wCv rfl | apply wCv' rfl | apply wE rfl | apply wMs rfl rfl rfl rfl | refine wMs rfl rfl ?_ rfl ?_))))
  clear hU
  rintro j hj
  generalize hps : [(self, n), (self.tmod 9, n.tmod 9)] = ps
  have hpl : ps.length = 2 := by rw [← hps]; rfl
  have hU : Fresh [] ⟨mkT (wT self n ask l ps j), mkM []⟩ := by exact fr
  cases hb : decide ((j : Int) < (ps.length : Int))
  · (repeat' (first | refine CQ.seq ?_ | refine CQ.block ?_ | ((first | apply CQ.rT hU | apply CQ.rD hU); (· (repeat (first | exact RunL.nil | (apply RunL.op; (first | ((first | apply sv | (apply gv; (· rfl); (· rfl)) | (apply gvB; (· rfl); (· rfl); (· assumption))); (first | exact vv)) | exact gn rfl rfl rfl | exact gnU rfl rfl | exact gnB rfl rfl (by assumption) rfl | exact so oo | exact gR rfl rfl oo | exact so rr | exact gR rfl rfl rr | exact gRB rfl rfl (by assumption) oo | exact gRB rfl rfl (by assumption) rr))))); (· kernel_rfl); clear hU; intro hU) | refine CQ.condT rfl ?_ | refine CQ.condF rfl ?_ | refine CQ.condT (hbl ‹_›) ?_ | refine CQ.condF (hbl ‹_›) ?_ | refine CQ.ret ?_ | refine CQ.skip ?_ | refine CQ.exit ?_ | (apply CQ.cond rfl <;> intro hb)))
    (repeat' (first | (apply retC; (first | (apply RetA.tmp; (repeat' (first | exact rfl | exact wE rfl rfl | exact wNV rfl | exact wLV rfl | exact wMs rfl rfl rfl rfl rfl | exact wCv rfl rfl | exact wCv' rfl rfl | exact wNil rfl rfl | exact wF rfl (LeC.fl _) | exact wF rfl (LeC.refl _) | apply wV5 rfl | apply wCv rfl | apply wCv' rfl | apply wE rfl | apply wMs rfl rfl rfl rfl | refine wMs rfl rfl ?_ rfl ?_))) | (apply RetA.cellS rfl rfl rfl rfl rfl; (repeat' (first | exact rfl | exact wE rfl rfl | exact wNV rfl | exact wLV rfl | exact wMs rfl rfl rfl rfl rfl | exact wCv rfl rfl | exact wCv' rfl rfl | exact wNil rfl rfl | exact wF rfl (LeC.fl _) | exact wF rfl (LeC.refl _) | apply wV5 rfl | apply wCv rfl | apply wCv' rfl | apply wE rfl | apply wMs rfl rfl rfl rfl | refine wMs rfl rfl ?_ rfl ?_))) | (apply RetA.cellW rfl rfl rfl rfl rfl; (repeat' (first | exact rfl | exact wE rfl rfl | exact wNV rfl | exact wLV rfl | exact wMs rfl rfl rfl rfl rfl | exact wCv rfl rfl | exact wCv' rfl rfl | exact wNil rfl rfl | exact wF rfl (LeC.fl _) | exact wF rfl (LeC.refl _) | apply wV5 rfl | apply wCv rfl | apply wCv' rfl | apply wE rfl | apply wMs rfl rfl rfl rfl | refine wMs rfl rfl ?_ rfl ?_))))) | exact retN))
  have hj2 : j < ps.length := by simp at hb; omega
  have gp := gy (G := GP) (List.getElem?_eq_getElem hj2)
  generalize ps[j] = p at gp
  obtain ⟨se, nn⟩ := p
  have hn1 := new_c 42 1042 (by decide) se nn
  have hn2 := newR_c 47 1047 (by decide) se nn
  have hw0 := WOk.new se nn
  have hz : (zeros nn).length = nodesN nn := zeros_len nn
  (repeat' (first | refine CQ.seq ?_ | refine CQ.block ?_ | ((first | apply CQ.rT hU | apply CQ.rD hU); (· (repeat (first | exact RunL.nil | (apply RunL.op; (first | ((first | apply sv | (apply gv; (· rfl); (· rfl)) | (apply gvB; (· rfl); (· rfl); (· assumption))); (first | exact (.idxC rfl rfl (by omega) (by exact gp) rfl rfl rfl rfl) | exact vv)) | exact gn rfl rfl rfl | exact gnU rfl rfl | exact gnB rfl rfl (by assumption) rfl | exact so ((coN2 rfl hn1 rfl rfl rfl tas)) | exact gR rfl rfl ((coN2 rfl hn1 rfl rfl rfl tas)) | exact gRB rfl rfl (by assumption) ((coN2 rfl hn1 rfl rfl rfl tas)) | exact so ((coN2 rfl hn2 rfl rfl rfl tas)) | exact gR rfl rfl ((coN2 rfl hn2 rfl rfl rfl tas)) | exact gRB rfl rfl (by assumption) ((coN2 rfl hn2 rfl rfl rfl tas)) | exact so oo | exact gR rfl rfl oo | exact so rr | exact gR rfl rfl rr | exact gRB rfl rfl (by assumption) oo | exact gRB rfl rfl (by assumption) rr))))); (· kernel_rfl); clear hU; intro hU) | refine CQ.condT rfl ?_ | refine CQ.condF rfl ?_ | refine CQ.condT (hbl ‹_›) ?_ | refine CQ.condF (hbl ‹_›) ?_ | refine CQ.ret ?_ | refine CQ.skip ?_ | refine CQ.exit ?_ | (apply CQ.cond rfl <;> intro hb)))
  generalize selfN se nn = sf at hw0 hn1 hn2
  generalize nodesN nn = N at hz hn1 hn2
  clear hn1 hn2
  refine CQ.loop hT (fun x : Nat × Nat × List Int => ⟨mkT ((11, .loc 42 0) :: (12, .loc 47 0) :: (13, .c (.v (.int .i64 x.1))) :: wT self n ask l ps j), mkM (wM sf x.2.1 x.2.2 N)⟩) (fun x => x.1 ≤ l.length ∧ x.2.1 ≤ x.1 ∧ x.2.2.length = N ∧ WOk sf x.2.2) (fun x => l.length - x.1) (0, 0, zeros nn) ⟨Nat.zero_le _, Nat.le_refl _, hz, hw0⟩ ?_ ?_
  · (refine wkS ?_ ?_; (all_goals (repeat' (first | exact wkB | refine wkP ?_ ?_ | exact wkMB | refine wkMP rfl ?_ ?_ | exact wkOr rfl | exact wkB0 | refine wkBx ?_ ?_ | refine wkOa ?_ | exact wr rfl | exact wE rfl rfl | exact wNV rfl | exact wLV rfl | exact wMs rfl rfl rfl rfl rfl | exact wCv rfl rfl | exact wCv' rfl rfl | exact wNil rfl rfl | exact wF rfl (LeC.fl _) | apply wV5 rfl | apply wCv rfl | apply wCv' rfl | apply wE rfl | apply wMs rfl rfl rfl rfl | refine wMs rfl rfl ?_ rfl ?_))))
  clear hU hz hw0
  rintro ⟨k, T, ages⟩ ⟨hk, hTk, hal, hwo⟩
  simp only at hk hTk hal hwo
  have hU : Fresh [42, 1042, 47, 1047] ⟨mkT ((11, .loc 42 0) :: (12, .loc 47 0) :: (13, .c (.v (.int .i64 k))) :: wT self n ask l ps j), mkM (wM sf T ages N)⟩ := by exact fr
  cases hb : decide ((k : Int) < (l.length : Int))
  rotate_left
  · have hk' : k < l.length := by simpa using hb
    have hw := wrapS hk' hlen
    have hg := gy (G := GR .i16) (List.getElem?_eq_getElem hk')
    generalize l[k] = q at hg
    obtain ⟨z, hzz⟩ := q
    have hN9 : N ≤ 1000 := by have := hwo.n9; omega
    obtain ⟨t1, t2, t3⟩ := ticks_eq (T := T) (by omega)
    cases h1 : (z.tmod 3 != 0)
    · have g1 := heard_c 42 1042 (by decide) sf ((T % 3 : Nat) : Int) ages N ((IntKind.i64.wrap (IntKind.i16.wrap (z.tdiv 3))).tmod 9) hal
      have g2 := heardR_c 47 1047 (by decide) sf (T : Int) ages N ((IntKind.i64.wrap (IntKind.i16.wrap (z.tdiv 3))).tmod 9) hal
      have hwo' := hwo.heard ((IntKind.i64.wrap (IntKind.i16.wrap (z.tdiv 3))).tmod 9)
      have hal' : (heardL sf ages ((IntKind.i64.wrap (IntKind.i16.wrap (z.tdiv 3))).tmod 9)).length = N := by rw [heardL_len]; exact hal
      generalize heardL sf ages ((IntKind.i64.wrap (IntKind.i16.wrap (z.tdiv 3))).tmod 9) = ages' at g1 g2 hwo' hal'
      generalize heardS sf ages ((IntKind.i64.wrap (IntKind.i16.wrap (z.tdiv 3))).tmod 9) = b at g1 g2
      have e0 : (!(b == b)) = false := by simp
      have g3 := suspects_c 42 1042 (by decide) sf ((T % 3 : Nat) : Int) ages' N hal' hN9
      have g4 := alive_c 42 1042 (by decide) sf ((T % 3 : Nat) : Int) ages' N hal' hN9
      have g5 := split_c 47 1047 (by decide) sf (T : Int) ages' N true hal' hN9
      have g6 := split_c 47 1047 (by decide) sf (T : Int) ages' N false hal' hN9
      have i1 := ints_c (whichS ages' true) (whichS ages' true)
      have i2 := ints_c (whichS ages' false) (whichS ages' false)
      rw [show (whichS ages' true == whichS ages' true) = true by simp] at i1
      rw [show (whichS ages' false == whichS ages' false) = true by simp] at i2
      (repeat' (first | refine CQ.seq ?_ | refine CQ.block ?_ | ((first | apply CQ.rT hU | apply CQ.rD hU); (· (repeat (first | exact RunL.nil | (apply RunL.op; (first | ((first | apply sv | (apply gv; (· rfl); (· rfl)) | (apply gvB; (· rfl); (· rfl); (· assumption))); (first | exact (lnG (G := GR .i16) rfl rfl rfl) | exact (.idxC rfl rfl (by omega) (by exact hg) rfl rfl rfl rfl) | exact .callP rfl rfl ta (i1) | exact .callP rfl rfl ta (i2) | exact vv)) | exact gn rfl rfl rfl | exact gnU rfl rfl | exact gnB rfl rfl (by assumption) rfl | exact so ((coP2 rfl g1 rfl rfl rfl tas)) | exact gR rfl rfl ((coP2 rfl g1 rfl rfl rfl tas)) | exact gRB rfl rfl (by assumption) ((coP2 rfl g1 rfl rfl rfl tas)) | exact so ((coP2 rfl g2 rfl rfl rfl tas)) | exact gR rfl rfl ((coP2 rfl g2 rfl rfl rfl tas)) | exact gRB rfl rfl (by assumption) ((coP2 rfl g2 rfl rfl rfl tas)) | exact so ((coP2 rfl g3 rfl rfl rfl tas)) | exact gR rfl rfl ((coP2 rfl g3 rfl rfl rfl tas)) | exact gRB rfl rfl (by assumption) ((coP2 rfl g3 rfl rfl rfl tas)) | exact so ((coP2 rfl g4 rfl rfl rfl tas)) | exact gR rfl rfl ((coP2 rfl g4 rfl rfl rfl tas)) | exact gRB rfl rfl (by assumption) ((coP2 rfl g4 rfl rfl rfl tas)) | exact so ((coP2 rfl g5 rfl rfl rfl tas)) | exact gR rfl rfl ((coP2 rfl g5 rfl rfl rfl tas)) | exact gRB rfl rfl (by assumption) ((coP2 rfl g5 rfl rfl rfl tas)) | exact so ((coP2 rfl g6 rfl rfl rfl tas)) | exact gR rfl rfl ((coP2 rfl g6 rfl rfl rfl tas)) | exact gRB rfl rfl (by assumption) ((coP2 rfl g6 rfl rfl rfl tas)) | exact so oo | exact gR rfl rfl oo | exact so rr | exact gR rfl rfl rr | exact gRB rfl rfl (by assumption) oo | exact gRB rfl rfl (by assumption) rr))))); (· kernel_rfl); clear hU; intro hU) | refine CQ.condT rfl ?_ | refine CQ.condF rfl ?_ | refine CQ.condT (hbl ‹_›) ?_ | refine CQ.condF (hbl ‹_›) ?_ | refine CQ.ret ?_ | refine CQ.skip ?_ | refine CQ.exit ?_ | (apply CQ.cond rfl <;> intro hb)))
      refine ⟨(k + 1, T, ages'), ⟨hk', by simp only; omega, hal', hwo'⟩, by simp only; omega, ?_⟩
      (refine wkS ?_ ?_; (all_goals (repeat' (first | exact wkB | refine wkP ?_ ?_ | exact wkMB | refine wkMP rfl ?_ ?_ | exact wkOr rfl | exact wkB0 | refine wkBx ?_ ?_ | refine wkOa ?_ | exact wr rfl | exact wE rfl rfl | exact wNV rfl | exact wLV rfl | exact wMs rfl rfl rfl rfl rfl | exact wCv rfl rfl | exact wCv' rfl rfl | exact wNil rfl rfl | exact wF rfl (LeC.fl _) | apply wV5 rfl | apply wCv rfl | apply wCv' rfl | apply wE rfl | apply wMs rfl rfl rfl rfl | refine wMs rfl rfl ?_ rfl ?_))))
      · rw [hw]
    · have g1 := tick_c 42 1042 (by decide) sf ((T % 3 : Nat) : Int) ages N hal hN9
      have g2 := tickR_c 47 1047 (by decide) sf (T : Int) ages N hal hN9
      rw [t1] at g1
      rw [t2, t3] at g2
      have hwo' := hwo.tick
      have hal' : (tickL sf ages).length = N := by rw [tickL_len]; exact hal
      generalize tickL sf ages = ages' at g1 g2 hwo' hal'
      have e0 : (!(((((T + 1) % 3 : Nat) : Int) == 0) == ((((T + 1) % 3 : Nat) : Int) == 0))) = false := by simp
      have g3 := suspects_c 42 1042 (by decide) sf (((T + 1) % 3 : Nat) : Int) ages' N hal' hN9
      have g4 := alive_c 42 1042 (by decide) sf (((T + 1) % 3 : Nat) : Int) ages' N hal' hN9
      have g5 := split_c 47 1047 (by decide) sf ((T + 1 : Nat) : Int) ages' N true hal' hN9
      have g6 := split_c 47 1047 (by decide) sf ((T + 1 : Nat) : Int) ages' N false hal' hN9
      have i1 := ints_c (whichS ages' true) (whichS ages' true)
      have i2 := ints_c (whichS ages' false) (whichS ages' false)
      rw [show (whichS ages' true == whichS ages' true) = true by simp] at i1
      rw [show (whichS ages' false == whichS ages' false) = true by simp] at i2
      (repeat' (first | refine CQ.seq ?_ | refine CQ.block ?_ | ((first | apply CQ.rT hU | apply CQ.rD hU); (· (repeat (first | exact RunL.nil | (apply RunL.op; (first | ((first | apply sv | (apply gv; (· rfl); (· rfl)) | (apply gvB; (· rfl); (· rfl); (· assumption))); (first | exact (lnG (G := GR .i16) rfl rfl rfl) | exact (.idxC rfl rfl (by omega) (by exact hg) rfl rfl rfl rfl) | exact .callP rfl rfl ta (i1) | exact .callP rfl rfl ta (i2) | exact vv)) | exact gn rfl rfl rfl | exact gnU rfl rfl | exact gnB rfl rfl (by assumption) rfl | exact so ((coP2 rfl g1 rfl rfl rfl tas)) | exact gR rfl rfl ((coP2 rfl g1 rfl rfl rfl tas)) | exact gRB rfl rfl (by assumption) ((coP2 rfl g1 rfl rfl rfl tas)) | exact so ((coP2 rfl g2 rfl rfl rfl tas)) | exact gR rfl rfl ((coP2 rfl g2 rfl rfl rfl tas)) | exact gRB rfl rfl (by assumption) ((coP2 rfl g2 rfl rfl rfl tas)) | exact so ((coP2 rfl g3 rfl rfl rfl tas)) | exact gR rfl rfl ((coP2 rfl g3 rfl rfl rfl tas)) | exact gRB rfl rfl (by assumption) ((coP2 rfl g3 rfl rfl rfl tas)) | exact so ((coP2 rfl g4 rfl rfl rfl tas)) | exact gR rfl rfl ((coP2 rfl g4 rfl rfl rfl tas)) | exact gRB rfl rfl (by assumption) ((coP2 rfl g4 rfl rfl rfl tas)) | exact so ((coP2 rfl g5 rfl rfl rfl tas)) | exact gR rfl rfl ((coP2 rfl g5 rfl rfl rfl tas)) | exact gRB rfl rfl (by assumption) ((coP2 rfl g5 rfl rfl rfl tas)) | exact so ((coP2 rfl g6 rfl rfl rfl tas)) | exact gR rfl rfl ((coP2 rfl g6 rfl rfl rfl tas)) | exact gRB rfl rfl (by assumption) ((coP2 rfl g6 rfl rfl rfl tas)) | exact so oo | exact gR rfl rfl oo | exact so rr | exact gR rfl rfl rr | exact gRB rfl rfl (by assumption) oo | exact gRB rfl rfl (by assumption) rr))))); (· kernel_rfl); clear hU; intro hU) | refine CQ.condT rfl ?_ | refine CQ.condF rfl ?_ | refine CQ.condT (hbl ‹_›) ?_ | refine CQ.condF (hbl ‹_›) ?_ | refine CQ.ret ?_ | refine CQ.skip ?_ | refine CQ.exit ?_ | (apply CQ.cond rfl <;> intro hb)))
      refine ⟨(k + 1, T + 1, ages'), ⟨hk', by simp only; omega, hal', hwo'⟩, by simp only; omega, ?_⟩
      (refine wkS ?_ ?_; (all_goals (repeat' (first | exact wkB | refine wkP ?_ ?_ | exact wkMB | refine wkMP rfl ?_ ?_ | exact wkOr rfl | exact wkB0 | refine wkBx ?_ ?_ | refine wkOa ?_ | exact wr rfl | exact wE rfl rfl | exact wNV rfl | exact wLV rfl | exact wMs rfl rfl rfl rfl rfl | exact wCv rfl rfl | exact wCv' rfl rfl | exact wNil rfl rfl | exact wF rfl (LeC.fl _) | apply wV5 rfl | apply wCv rfl | apply wCv' rfl | apply wE rfl | apply wMs rfl rfl rfl rfl | refine wMs rfl rfl ?_ rfl ?_))))
      · rw [hw]
  have hpc := place_c ask
  generalize (if ask.tmod 8 < 0 then IntKind.i64.wrap (ask.tmod 8 + 8) else ask.tmod 8) = pl at hpc
  (repeat' (first | refine CQ.seq ?_ | refine CQ.block ?_ | ((first | apply CQ.rT hU | apply CQ.rD hU); (· (repeat (first | exact RunL.nil | (apply RunL.op; (first | ((first | apply sv | (apply gv; (· rfl); (· rfl)) | (apply gvB; (· rfl); (· rfl); (· assumption))); (first | exact .callP rfl rfl ta (hpc) | exact (lnG (G := GR .i16) rfl rfl rfl) | exact (bsG (G := GI .i64) (vs := [ask, pl]) (.cons (tE rfl) (.cons (tE rfl) .nil)) rfl rfl rfl rfl rfl rfl rfl rfl) | exact vv)) | exact gn rfl rfl rfl | exact gnU rfl rfl | exact gnB rfl rfl (by assumption) rfl | exact so oo | exact gR rfl rfl oo | exact so rr | exact gR rfl rfl rr | exact gRB rfl rfl (by assumption) oo | exact gRB rfl rfl (by assumption) rr))))); (· kernel_rfl); clear hU; intro hU) | refine CQ.condT rfl ?_ | refine CQ.condF rfl ?_ | refine CQ.condT (hbl ‹_›) ?_ | refine CQ.condF (hbl ‹_›) ?_ | refine CQ.ret ?_ | refine CQ.skip ?_ | refine CQ.exit ?_ | (apply CQ.cond rfl <;> intro hb)))
  refine CQ.loop hT (fun x : Nat => ⟨mkT ((11, .loc 42 0) :: (12, .loc 47 0) :: (101, .c (.sl 1 ([ask, pl].map (GI .i64).g))) :: (102, .c (.v (.int .i64 (([ask, pl].length : Nat) : Int)))) :: (103, .c (.v (.int .i64 x))) :: wT self n ask l ps j), mkM (wM sf T ages N)⟩) (fun x => x ≤ 2) (fun x => 2 - x) 0 (Nat.zero_le _) ?_ ?_
  · (refine wkS ?_ ?_; (all_goals (repeat' (first | exact wkB | refine wkP ?_ ?_ | exact wkMB | refine wkMP rfl ?_ ?_ | exact wkOr rfl | exact wkB0 | refine wkBx ?_ ?_ | refine wkOa ?_ | exact wr rfl | exact wE rfl rfl | exact wNV rfl | exact wLV rfl | exact wMs rfl rfl rfl rfl rfl | exact wCv rfl rfl | exact wCv' rfl rfl | exact wNil rfl rfl | exact wF rfl (LeC.fl _) | apply wV5 rfl | apply wCv rfl | apply wCv' rfl | apply wE rfl | apply wMs rfl rfl rfl rfl | refine wMs rfl rfl ?_ rfl ?_))))
  clear hU hb
  rintro i hi
  generalize hqs : [ask, pl] = qs
  have hql : qs.length = 2 := by rw [← hqs]; rfl
  have hU : Fresh [42, 1042, 47, 1047] ⟨mkT ((11, .loc 42 0) :: (12, .loc 47 0) :: (101, .c (.sl 1 (qs.map (GI .i64).g))) :: (102, .c (.v (.int .i64 ((qs.length : Nat) : Int)))) :: (103, .c (.v (.int .i64 i))) :: wT self n ask l ps j), mkM (wM sf T ages N)⟩ := by exact fr
  cases hb : decide ((i : Int) < ((qs.length : Nat) : Int))
  · (repeat' (first | refine CQ.seq ?_ | refine CQ.block ?_ | ((first | apply CQ.rT hU | apply CQ.rD hU); (· (repeat (first | exact RunL.nil | (apply RunL.op; (first | ((first | apply sv | (apply gv; (· rfl); (· rfl)) | (apply gvB; (· rfl); (· rfl); (· assumption))); (first | exact vv)) | exact gn rfl rfl rfl | exact gnU rfl rfl | exact gnB rfl rfl (by assumption) rfl | exact so oo | exact gR rfl rfl oo | exact so rr | exact gR rfl rfl rr | exact gRB rfl rfl (by assumption) oo | exact gRB rfl rfl (by assumption) rr))))); (· kernel_rfl); clear hU; intro hU) | refine CQ.condT rfl ?_ | refine CQ.condF rfl ?_ | refine CQ.condT (hbl ‹_›) ?_ | refine CQ.condF (hbl ‹_›) ?_ | refine CQ.ret ?_ | refine CQ.skip ?_ | refine CQ.exit ?_ | (apply CQ.cond rfl <;> intro hb)))
    refine ⟨j + 1, by omega, by omega, ?_⟩
    have hw : IntKind.i64.wrap ((j : Int) + 1) = ((j + 1 : Nat) : Int) := wrap_id (by omega) (by omega)
    rw [← hps]
    (refine wkS ?_ ?_; (all_goals (repeat' (first | exact wkB | refine wkP ?_ ?_ | exact wkMB | refine wkMP rfl ?_ ?_ | exact wkOr rfl | exact wkB0 | refine wkBx ?_ ?_ | refine wkOa ?_ | exact wr rfl | exact wE rfl rfl | exact wNV rfl | exact wLV rfl | exact wMs rfl rfl rfl rfl rfl | exact wCv rfl rfl | exact wCv' rfl rfl | exact wNil rfl rfl | exact wF rfl (LeC.fl _) | apply wV5 rfl | apply wCv rfl | apply wCv' rfl | apply wE rfl | apply wMs rfl rfl rfl rfl | refine wMs rfl rfl ?_ rfl ?_))))
    · rw [hw]
  have hi2 : i < qs.length := by simp at hb; omega
  have gq := gy (G := GI .i64) (List.getElem?_eq_getElem hi2)
  generalize qs[i] = q at gq
  have hw : IntKind.i64.wrap ((i : Int) + 1) = ((i + 1 : Nat) : Int) := wrap_id (by omega) (by omega)
  have ha := age_c 42 1042 (by decide) sf ((T % 3 : Nat) : Int) ages N q hal hwo.s0 (by have := hwo.sn; omega)
  have hao := ageOk_eq hwo q
  rw [hal] at hao
  rw [hao] at ha
  cases h1 : decide (q ≥ 0)
  · rw [h1] at ha
    have e1 : ((false && decide (q < (N : Int))) != false) = false := rfl
    (repeat' (first | refine CQ.seq ?_ | refine CQ.block ?_ | ((first | apply CQ.rT hU | apply CQ.rD hU); (· (repeat (first | exact RunL.nil | (apply RunL.op; (first | ((first | apply sv | (apply gv; (· rfl); (· rfl)) | (apply gvB; (· rfl); (· rfl); (· assumption))); (first | exact (.idxC rfl rfl (by omega) (by exact gq) rfl rfl rfl rfl) | exact vv)) | exact gn rfl rfl rfl | exact gnU rfl rfl | exact gnB rfl rfl (by assumption) rfl | exact so ((coP2 rfl ha rfl rfl rfl tas)) | exact gR rfl rfl ((coP2 rfl ha rfl rfl rfl tas)) | exact gRB rfl rfl (by assumption) ((coP2 rfl ha rfl rfl rfl tas)) | exact so oo | exact gR rfl rfl oo | exact so rr | exact gR rfl rfl rr | exact gRB rfl rfl (by assumption) oo | exact gRB rfl rfl (by assumption) rr))))); (· kernel_rfl); clear hU; intro hU) | refine CQ.condT rfl ?_ | refine CQ.condF rfl ?_ | refine CQ.condT (hbl ‹_›) ?_ | refine CQ.condF (hbl ‹_›) ?_ | refine CQ.ret ?_ | refine CQ.skip ?_ | refine CQ.exit ?_ | (apply CQ.cond rfl <;> intro hb)))
    refine ⟨i + 1, by omega, by omega, ?_⟩
    rw [← hqs]
    (refine wkS ?_ ?_; (all_goals (repeat' (first | exact wkB | refine wkP ?_ ?_ | exact wkMB | refine wkMP rfl ?_ ?_ | exact wkOr rfl | exact wkB0 | refine wkBx ?_ ?_ | refine wkOa ?_ | exact wr rfl | exact wE rfl rfl | exact wNV rfl | exact wLV rfl | exact wMs rfl rfl rfl rfl rfl | exact wCv rfl rfl | exact wCv' rfl rfl | exact wNil rfl rfl | exact wF rfl (LeC.fl _) | apply wV5 rfl | apply wCv rfl | apply wCv' rfl | apply wE rfl | apply wMs rfl rfl rfl rfl | refine wMs rfl rfl ?_ rfl ?_))))
    · rw [hw]
  cases h2 : decide (q < (N : Int))
  · rw [h1, h2, show (true && false) = false from rfl, if_neg (by decide)] at ha
    have e2 : (!(false == decide (q < (N : Int)))) = false := by rw [h2]; rfl
    have e6 : (!decide (q < (N : Int))) = true := by rw [h2]; rfl
    (repeat' (first | refine CQ.seq ?_ | refine CQ.block ?_ | ((first | apply CQ.rT hU | apply CQ.rD hU); (· (repeat (first | exact RunL.nil | (apply RunL.op; (first | ((first | apply sv | (apply gv; (· rfl); (· rfl)) | (apply gvB; (· rfl); (· rfl); (· assumption))); (first | exact (.idxC rfl rfl (by omega) (by exact gq) rfl rfl rfl rfl) | exact (lnM (G := GI .i64) rfl rfl (by assumption) rfl rfl) | exact vv)) | exact gn rfl rfl rfl | exact gnU rfl rfl | exact gnB rfl rfl (by assumption) rfl | exact so ((coP2 rfl ha rfl rfl rfl tas)) | exact gR rfl rfl ((coP2 rfl ha rfl rfl rfl tas)) | exact gRB rfl rfl (by assumption) ((coP2 rfl ha rfl rfl rfl tas)) | exact so oo | exact gR rfl rfl oo | exact so rr | exact gR rfl rfl rr | exact gRB rfl rfl (by assumption) oo | exact gRB rfl rfl (by assumption) rr))))); (· kernel_rfl); clear hU; intro hU) | refine CQ.condT rfl ?_ | refine CQ.condF rfl ?_ | refine CQ.condT (hbl ‹_›) ?_ | refine CQ.condF (hbl ‹_›) ?_ | refine CQ.ret ?_ | refine CQ.skip ?_ | refine CQ.exit ?_ | (apply CQ.cond rfl <;> intro hb)))
    refine ⟨i + 1, by omega, by omega, ?_⟩
    rw [← hqs]
    (refine wkS ?_ ?_; (all_goals (repeat' (first | exact wkB | refine wkP ?_ ?_ | exact wkMB | refine wkMP rfl ?_ ?_ | exact wkOr rfl | exact wkB0 | refine wkBx ?_ ?_ | refine wkOa ?_ | exact wr rfl | exact wE rfl rfl | exact wNV rfl | exact wLV rfl | exact wMs rfl rfl rfl rfl rfl | exact wCv rfl rfl | exact wCv' rfl rfl | exact wNil rfl rfl | exact wF rfl (LeC.fl _) | apply wV5 rfl | apply wCv rfl | apply wCv' rfl | apply wE rfl | apply wMs rfl rfl rfl rfl | refine wMs rfl rfl ?_ rfl ?_))))
    · rw [hw]
  rw [h1, h2, show (true && true) = true from rfl, if_pos rfl] at ha
  have e2 : (!(true == decide (q < (N : Int)))) = false := by rw [h2]; rfl
  have e6 : (!decide (q < (N : Int))) = false := by rw [h2]; rfl
  have hqN : q.toNat < ages.length := by simp at h1 h2; omega
  have g7 : ages[q.toNat]? = some (ages.getD q.toNat 0) := by simp [List.getD, List.getElem?_eq_getElem hqN]
  have h0 : 0 ≤ q := by simpa using h1
  have h3 : q < (N : Int) := by simpa using h2
  have e5 : (ages.getD q.toNat 0 != ages.getD q.toNat 0) = false := by simp
  (repeat' (first | refine CQ.seq ?_ | refine CQ.block ?_ | ((first | apply CQ.rT hU | apply CQ.rD hU); (· (repeat (first | exact RunL.nil | (apply RunL.op; (first | ((first | apply sv | (apply gv; (· rfl); (· rfl)) | (apply gvB; (· rfl); (· rfl); (· assumption))); (first | exact (.idxC rfl rfl (by omega) (by exact gq) rfl rfl rfl rfl) | exact (lnM (G := GI .i64) rfl rfl (by assumption) rfl rfl) | exact (ixM (G := GI .i64) rfl rfl (by assumption) rfl (by omega) (by omega) rfl rfl rfl rfl) | exact (ldM (G := GI .i64) rfl rfl (by assumption) (by assumption) rfl rfl rfl rfl) | exact vv)) | exact gn rfl rfl rfl | exact gnU rfl rfl | exact gnB rfl rfl (by assumption) rfl | exact so ((coP2 rfl ha rfl rfl rfl tas)) | exact gR rfl rfl ((coP2 rfl ha rfl rfl rfl tas)) | exact gRB rfl rfl (by assumption) ((coP2 rfl ha rfl rfl rfl tas)) | exact so oo | exact gR rfl rfl oo | exact so rr | exact gR rfl rfl rr | exact gRB rfl rfl (by assumption) oo | exact gRB rfl rfl (by assumption) rr))))); (· kernel_rfl); clear hU; intro hU) | refine CQ.condT rfl ?_ | refine CQ.condF rfl ?_ | refine CQ.condT (hbl ‹_›) ?_ | refine CQ.condF (hbl ‹_›) ?_ | refine CQ.ret ?_ | refine CQ.skip ?_ | refine CQ.exit ?_ | (apply CQ.cond rfl <;> intro hb)))
  refine ⟨i + 1, by omega, by omega, ?_⟩
  rw [← hqs]
  (refine wkS ?_ ?_; (all_goals (repeat' (first | exact wkB | refine wkP ?_ ?_ | exact wkMB | refine wkMP rfl ?_ ?_ | exact wkOr rfl | exact wkB0 | refine wkBx ?_ ?_ | refine wkOa ?_ | exact wr rfl | exact wE rfl rfl | exact wNV rfl | exact wLV rfl | exact wMs rfl rfl rfl rfl rfl | exact wCv rfl rfl | exact wCv' rfl rfl | exact wNil rfl rfl | exact wF rfl (LeC.fl _) | apply wV5 rfl | apply wCv rfl | apply wCv' rfl | apply wE rfl | apply wMs rfl rfl rfl rfl | refine wMs rfl rfl ?_ rfl ?_))))
  · rw [hw]
end Go.Proofs.Ytafieicinmcngaa
