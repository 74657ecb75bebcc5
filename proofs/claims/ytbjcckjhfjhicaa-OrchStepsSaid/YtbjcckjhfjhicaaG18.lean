/- Walks: the reference's plan. -/
import Derived.Test.YtbjcckjhfjhicaaG17
namespace Go.Proofs.Ytbjcckjhfjhicaa
open Go Go.AM
set_option linter.unusedVariables false
set_option maxHeartbeats 4000000
set_option maxRecDepth 100000
set_option linter.unusedSimpArgs false

theorem planR_c (l : List V) : Pure env.P 50 [.sl 5 (l.map V.cv)] [.sl 3 ((planS l).1.map GT.g), .v (.int .i64 (planS l).2)] := by
  refine Pure.fact 0 rfl ⟨_, Try.func50, rfl, rfl⟩ (fun _ _ _ h => vl_len h) ?_; intro hlen; refine Pure.go (E := env) Try.func50 rfl rfl rfl (Nat.le_of_ble_eq_true rfl) (Nat.le_of_ble_eq_true rfl) ?_; rintro ⟨w0, T0, L0, n, r0, hn0, hT0⟩ hn hT hU; obtain rfl : n = _ := hn
  have hc := checkR_c sOrch sRun l
  unfold planS
  cases h1 : (checkR sOrch sRun l != 0)
  rotate_left
  · (repeat' (first | refine CQ.seq ?_ | refine CQ.block ?_ | ((first | apply CQ.rT hU | apply CQ.rD hU); (· (repeat (first | exact RunL.nil | (apply RunL.op; (first | ((first | apply sv | (apply gv; (· rfl); (· rfl)) | (apply gvB; (· rfl); (· rfl); (· assumption))); (first | exact .callP rfl rfl ta (hc) | exact vv)) | exact gn rfl rfl rfl | exact gnU rfl rfl | exact gnB rfl rfl (by assumption) rfl | exact so oo | exact gR rfl rfl oo | exact so rr | exact gR rfl rfl rr | exact gRB rfl rfl (by assumption) oo | exact gRB rfl rfl (by assumption) rr))))); (· kernel_rfl); clear hU; intro hU) | refine CQ.condT rfl ?_ | refine CQ.condF rfl ?_ | refine CQ.condT (hbl ‹_›) ?_ | refine CQ.condF (hbl ‹_›) ?_ | refine CQ.ret ?_ | refine CQ.skip ?_ | refine CQ.exit ?_ | (apply CQ.cond rfl <;> intro hb)))
    (repeat' (first | (apply retC; (first | (apply RetA.tmp; (repeat' (first | exact rfl | exact wE rfl rfl | exact wNV rfl | exact wLV rfl | exact wMs rfl rfl rfl rfl rfl | exact wCv rfl rfl | exact wCv' rfl rfl | exact wNil rfl rfl | exact wF rfl (LeC.fl _) | exact wF rfl (LeC.refl _) | apply wV5 rfl | apply wCv rfl | apply wCv' rfl | apply wE rfl | apply wMs rfl rfl rfl rfl | refine wMs rfl rfl ?_ rfl ?_))) | (apply RetA.cellS rfl rfl rfl rfl rfl; (repeat' (first | exact rfl | exact wE rfl rfl | exact wNV rfl | exact wLV rfl | exact wMs rfl rfl rfl rfl rfl | exact wCv rfl rfl | exact wCv' rfl rfl | exact wNil rfl rfl | exact wF rfl (LeC.fl _) | exact wF rfl (LeC.refl _) | apply wV5 rfl | apply wCv rfl | apply wCv' rfl | apply wE rfl | apply wMs rfl rfl rfl rfl | refine wMs rfl rfl ?_ rfl ?_))) | (apply RetA.cellW rfl rfl rfl rfl rfl; (repeat' (first | exact rfl | exact wE rfl rfl | exact wNV rfl | exact wLV rfl | exact wMs rfl rfl rfl rfl rfl | exact wCv rfl rfl | exact wCv' rfl rfl | exact wNil rfl rfl | exact wF rfl (LeC.fl _) | exact wF rfl (LeC.refl _) | apply wV5 rfl | apply wCv rfl | apply wCv' rfl | apply wE rfl | apply wMs rfl rfl rfl rfl | refine wMs rfl rfl ?_ rfl ?_))))) | exact retN))
  obtain ⟨hl8, hok⟩ := run_ok (l := l) (by simpa using h1)
  have h1' : checkR sOrch sRun l = 0 := by simpa using h1
  rw [h1'] at hc
  (repeat' (first | refine CQ.seq ?_ | refine CQ.block ?_ | ((first | apply CQ.rT hU | apply CQ.rD hU); (· (repeat (first | exact RunL.nil | (apply RunL.op; (first | ((first | apply sv | (apply gv; (· rfl); (· rfl)) | (apply gvB; (· rfl); (· rfl); (· assumption))); (first | exact .callP rfl rfl ta (hc) | exact vv)) | exact gn rfl rfl rfl | exact gnU rfl rfl | exact gnB rfl rfl (by assumption) rfl | exact so oo | exact gR rfl rfl oo | exact so rr | exact gR rfl rfl rr | exact gRB rfl rfl (by assumption) oo | exact gRB rfl rfl (by assumption) rr))))); (· kernel_rfl); clear hU; intro hU) | refine CQ.condT rfl ?_ | refine CQ.condF rfl ?_ | refine CQ.condT (hbl ‹_›) ?_ | refine CQ.condF (hbl ‹_›) ?_ | refine CQ.ret ?_ | refine CQ.skip ?_ | refine CQ.exit ?_ | (apply CQ.cond rfl <;> intro hb)))
  refine CQ.loop hT (fun k : Nat => match k with
    | 0 => ⟨mkT [(0, .c (.sl 5 (l.map V.cv))), (5, .c (.v (.slice none 0 0))), (6, .c (.v (.int .i64 0)))], mkM []⟩
    | k + 1 => ⟨mkT [(0, .c (.sl 5 (l.map V.cv))), (5, .ms 44 (k + 1)), (6, .c (.v (.int .i64 ((k + 1 : Nat) : Int))))], mkM [(44, .arr 3 61 (((l.take (k + 1)).map stepOf).map GT.g))]⟩)
    (fun k => k ≤ l.length) (fun k => l.length - k) 0 (Nat.zero_le _) ?_ ?_
  · (refine wkS ?_ ?_; (all_goals (repeat' (first | exact wkB | refine wkP ?_ ?_ | exact wkMB | refine wkMP rfl ?_ ?_ | exact wkOr rfl | exact wkB0 | refine wkBx ?_ ?_ | refine wkOa ?_ | exact wr rfl | exact wE rfl rfl | exact wNV rfl | exact wLV rfl | exact wMs rfl rfl rfl rfl rfl | exact wCv rfl rfl | exact wCv' rfl rfl | exact wNil rfl rfl | exact wF rfl (LeC.fl _) | apply wV5 rfl | apply wCv rfl | apply wCv' rfl | apply wE rfl | apply wMs rfl rfl rfl rfl | refine wMs rfl rfl ?_ rfl ?_))))
  clear hU
  rintro (_ | k) hk
  · have hU : Fresh [] ⟨mkT [(0, .c (.sl 5 (l.map V.cv))), (5, .c (.v (.slice none 0 0))), (6, .c (.v (.int .i64 0)))], mkM []⟩ := by exact fr
    cases hb : decide ((0 : Int) < (l.length : Int))
    · (repeat' (first | refine CQ.seq ?_ | refine CQ.block ?_ | ((first | apply CQ.rT hU | apply CQ.rD hU); (· (repeat (first | exact RunL.nil | (apply RunL.op; (first | ((first | apply sv | (apply gv; (· rfl); (· rfl)) | (apply gvB; (· rfl); (· rfl); (· assumption))); (first | exact vv)) | exact gn rfl rfl rfl | exact gnU rfl rfl | exact gnB rfl rfl (by assumption) rfl | exact so oo | exact gR rfl rfl oo | exact so rr | exact gR rfl rfl rr | exact gRB rfl rfl (by assumption) oo | exact gRB rfl rfl (by assumption) rr))))); (· kernel_rfl); clear hU; intro hU) | refine CQ.condT rfl ?_ | refine CQ.condF rfl ?_ | refine CQ.condT (hbl ‹_›) ?_ | refine CQ.condF (hbl ‹_›) ?_ | refine CQ.ret ?_ | refine CQ.skip ?_ | refine CQ.exit ?_ | (apply CQ.cond rfl <;> intro hb)))
      clear hU
      have : l = [] := by simpa using hb
      subst this
      (repeat' (first | (apply retC; (first | (apply RetA.tmp; (repeat' (first | exact rfl | exact wE rfl rfl | exact wNV rfl | exact wLV rfl | exact wMs rfl rfl rfl rfl rfl | exact wCv rfl rfl | exact wCv' rfl rfl | exact wNil rfl rfl | exact wF rfl (LeC.fl _) | exact wF rfl (LeC.refl _) | apply wV5 rfl | apply wCv rfl | apply wCv' rfl | apply wE rfl | apply wMs rfl rfl rfl rfl | refine wMs rfl rfl ?_ rfl ?_))) | (apply RetA.cellS rfl rfl rfl rfl rfl; (repeat' (first | exact rfl | exact wE rfl rfl | exact wNV rfl | exact wLV rfl | exact wMs rfl rfl rfl rfl rfl | exact wCv rfl rfl | exact wCv' rfl rfl | exact wNil rfl rfl | exact wF rfl (LeC.fl _) | exact wF rfl (LeC.refl _) | apply wV5 rfl | apply wCv rfl | apply wCv' rfl | apply wE rfl | apply wMs rfl rfl rfl rfl | refine wMs rfl rfl ?_ rfl ?_))) | (apply RetA.cellW rfl rfl rfl rfl rfl; (repeat' (first | exact rfl | exact wE rfl rfl | exact wNV rfl | exact wLV rfl | exact wMs rfl rfl rfl rfl rfl | exact wCv rfl rfl | exact wCv' rfl rfl | exact wNil rfl rfl | exact wF rfl (LeC.fl _) | exact wF rfl (LeC.refl _) | apply wV5 rfl | apply wCv rfl | apply wCv' rfl | apply wE rfl | apply wMs rfl rfl rfl rfl | refine wMs rfl rfl ?_ rfl ?_))))) | exact retN))
    · have hk' : 0 < l.length := by simp at hb; omega
      have hy : l[0]? = some l[0] := List.getElem?_eq_getElem hk'
      have hmem : l[0] ∈ l := List.getElem_mem hk'
      generalize l[0] = y at hy hmem
      obtain ⟨hy1, hy2⟩ := hok y hmem
      obtain ⟨a, b, r, hyl, hy4, ha3, hb3⟩ := step_parts hy2
      have hsy := check_small hy1
      rw [smallS_eq, show (y.kind == 4) = true by rw [hy4]; rfl, if_pos rfl, Bool.and_eq_true, decide_eq_true_eq, smallsS_eq, List.all_eq_true] at hsy
      have hcs := cleans_c (y.l.drop 2) (by rw [List.length_drop]; omega) (List.all_eq_true.2 fun x hx => hsy.2 x (List.mem_of_mem_drop hx))
      have hya : y.l[(0 : Int).toNat]? = some a := by rw [hyl]; rfl
      have hyb : y.l[(1 : Int).toNat]? = some b := by rw [hyl]; rfl
      have hy2l : 2 ≤ y.l.length := by rw [hyl]; simp
      have hst : stepOf y = (a.s, b.s, (y.l.drop 2).map cleanS) := by unfold stepOf; rw [hyl]; rfl
      have hgs : ToC (.agg [.c (.v (.string a.s)), .c (.v (.string b.s)), .c (.sl 5 (((y.l.drop 2).map cleanS).map V.cv))]) (GT.g (a.s, b.s, (y.l.drop 2).map cleanS)) := .agg rfl fun j x z hx hz => by
        match j with
        | 0 => obtain rfl := Option.some.inj hx; obtain rfl := Option.some.inj hz; exact tE rfl
        | 1 => obtain rfl := Option.some.inj hx; obtain rfl := Option.some.inj hz; exact tE rfl
        | 2 => obtain rfl := Option.some.inj hx; obtain rfl := Option.some.inj hz; exact tE rfl
        | j + 3 => simp at hx
      (repeat' (first | refine CQ.seq ?_ | refine CQ.block ?_ | ((first | apply CQ.rT hU | apply CQ.rD hU); (· (repeat (first | exact RunL.nil | (apply RunL.op; (first | ((first | apply sv | (apply gv; (· rfl); (· rfl)) | (apply gvB; (· rfl); (· rfl); (· assumption))); (first | exact .callP rfl rfl ta (hcs) | exact (ixV (l := l) (y := y) rfl rfl (by omega) (by exact hy) rfl rfl rfl rfl) | exact (ixV (l := y.l) (y := a) rfl rfl (by decide) hya rfl rfl rfl rfl) | exact (ixV (l := y.l) (y := b) rfl rfl (by decide) hyb rfl rfl rfl rfl) | exact (slSuf (l := y.l) (k := 2) rfl hy2l rfl rfl rfl rfl rfl rfl) | exact (bsG (G := GT) (vs := [(a.s, b.s, (y.l.drop 2).map cleanS)]) (.cons hgs .nil) rfl rfl rfl rfl rfl rfl rfl rfl) | (apply bsG (G := GT); (· repeat (first | exact ToGs.nil | (apply ToGs.cons; first | exact tE rfl))); (· rfl); (· rfl); (· rfl); (· rfl); (· rfl); (· rfl); (· rfl); (· rfl)) | exact vv)) | exact gn rfl rfl rfl | exact gnU rfl rfl | exact gnB rfl rfl (by assumption) rfl | (· apply so; first | exact apNG (G := GT) rfl rfl rfl rfl rfl rfl rfl rfl (Nat.le_of_ble_eq_true rfl) | (apply apMG (G := GT) rfl rfl; (· first | rfl | assumption | (simp; omega)); (· rfl); (· rfl); (· rfl); (· rfl); (· rfl); (· rfl); (· rfl); (· first | (simp; omega) | omega); (· exact Nat.le_of_ble_eq_true rfl)) | exact oo) | exact gR rfl rfl oo | exact so rr | exact gR rfl rfl rr | exact gRB rfl rfl (by assumption) oo | exact gRB rfl rfl (by assumption) rr))))); (· kernel_rfl); clear hU; intro hU) | refine CQ.condT rfl ?_ | refine CQ.condF rfl ?_ | refine CQ.condT (hbl ‹_›) ?_ | refine CQ.condF (hbl ‹_›) ?_ | refine CQ.ret ?_ | refine CQ.skip ?_ | refine CQ.exit ?_ | (apply CQ.cond rfl <;> intro hb)))
      refine ⟨1, hk', by omega, ?_⟩
      (refine wkS ?_ ?_; (all_goals (repeat' (first | exact wkB | refine wkP ?_ ?_ | exact wkMB | refine wkMP rfl ?_ ?_ | exact wkOr rfl | exact wkB0 | refine wkBx ?_ ?_ | refine wkOa ?_ | exact wr rfl | exact wE rfl rfl | exact wNV rfl | exact wLV rfl | exact wMs rfl rfl rfl rfl rfl | exact wCv rfl rfl | exact wCv' rfl rfl | exact wNil rfl rfl | exact wF rfl (LeC.fl _) | apply wV5 rfl | apply wCv rfl | apply wCv' rfl | apply wE rfl | apply wMs rfl rfl rfl rfl | refine wMs rfl rfl ?_ rfl ?_))))
      rw [map_takeG _ hy, hst]; rfl
  · have hU : Fresh [44] ⟨mkT [(0, .c (.sl 5 (l.map V.cv))), (5, .ms 44 (k + 1)), (6, .c (.v (.int .i64 ((k + 1 : Nat) : Int))))], mkM [(44, .arr 3 61 (((l.take (k + 1)).map stepOf).map GT.g))]⟩ := by exact fr
    cases hb : decide ((((k + 1 : Nat) : Int) : Int) < (l.length : Int))
    · have hkl : k + 1 = l.length := by simp at hb; omega
      have hlm : ((l.take (k + 1)).map stepOf).length = k + 1 := by rw [List.length_map, List.length_take]; omega
      (repeat' (first | refine CQ.seq ?_ | refine CQ.block ?_ | ((first | apply CQ.rT hU | apply CQ.rD hU); (· (repeat (first | exact RunL.nil | (apply RunL.op; (first | ((first | apply sv | (apply gv; (· rfl); (· rfl)) | (apply gvB; (· rfl); (· rfl); (· assumption))); (first | exact vv)) | exact gn rfl rfl rfl | exact gnU rfl rfl | exact gnB rfl rfl (by assumption) rfl | exact so oo | exact gR rfl rfl oo | exact so rr | exact gR rfl rfl rr | exact gRB rfl rfl (by assumption) oo | exact gRB rfl rfl (by assumption) rr))))); (· kernel_rfl); clear hU; intro hU) | refine CQ.condT rfl ?_ | refine CQ.condF rfl ?_ | refine CQ.condT (hbl ‹_›) ?_ | refine CQ.condF (hbl ‹_›) ?_ | refine CQ.ret ?_ | refine CQ.skip ?_ | refine CQ.exit ?_ | (apply CQ.cond rfl <;> intro hb)))
      (repeat' (first | (apply retC; (first | (apply RetA.tmp; (repeat' (first | exact rfl | exact wE rfl rfl | exact wNV rfl | exact wLV rfl | exact wMs rfl rfl rfl rfl rfl | exact wCv rfl rfl | exact wCv' rfl rfl | exact wNil rfl rfl | exact wF rfl (LeC.fl _) | exact wF rfl (LeC.refl _) | apply wV5 rfl | apply wCv rfl | apply wCv' rfl | apply wE rfl | apply wMs rfl rfl rfl rfl | refine wMs rfl rfl ?_ rfl ?_))) | (apply RetA.cellS rfl rfl rfl rfl rfl; (repeat' (first | exact rfl | exact wE rfl rfl | exact wNV rfl | exact wLV rfl | exact wMs rfl rfl rfl rfl rfl | exact wCv rfl rfl | exact wCv' rfl rfl | exact wNil rfl rfl | exact wF rfl (LeC.fl _) | exact wF rfl (LeC.refl _) | apply wV5 rfl | apply wCv rfl | apply wCv' rfl | apply wE rfl | apply wMs rfl rfl rfl rfl | refine wMs rfl rfl ?_ rfl ?_))) | (apply RetA.cellW rfl rfl rfl rfl rfl; (repeat' (first | exact rfl | exact wE rfl rfl | exact wNV rfl | exact wLV rfl | exact wMs rfl rfl rfl rfl rfl | exact wCv rfl rfl | exact wCv' rfl rfl | exact wNil rfl rfl | exact wF rfl (LeC.fl _) | exact wF rfl (LeC.refl _) | apply wV5 rfl | apply wCv rfl | apply wCv' rfl | apply wE rfl | apply wMs rfl rfl rfl rfl | refine wMs rfl rfl ?_ rfl ?_))))) | exact retN))
      all_goals first | (rw [hkl, List.take_length]; done) | (rw [hkl, List.take_length]; rfl) | (rw [List.length_map, List.length_map, List.length_take]; omega) | (rw [List.length_map, List.length_take]; omega)
    · have hk' : k + 1 < l.length := by simp at hb; omega
      have hy : l[k + 1]? = some l[k + 1] := List.getElem?_eq_getElem hk'
      have hmem : l[k + 1] ∈ l := List.getElem_mem hk'
      generalize l[k + 1] = y at hy hmem
      obtain ⟨hy1, hy2⟩ := hok y hmem
      obtain ⟨a, b, r, hyl, hy4, ha3, hb3⟩ := step_parts hy2
      have hsy := check_small hy1
      rw [smallS_eq, show (y.kind == 4) = true by rw [hy4]; rfl, if_pos rfl, Bool.and_eq_true, decide_eq_true_eq, smallsS_eq, List.all_eq_true] at hsy
      have hcs := cleans_c (y.l.drop 2) (by rw [List.length_drop]; omega) (List.all_eq_true.2 fun x hx => hsy.2 x (List.mem_of_mem_drop hx))
      have hya : y.l[(0 : Int).toNat]? = some a := by rw [hyl]; rfl
      have hyb : y.l[(1 : Int).toNat]? = some b := by rw [hyl]; rfl
      have hy2l : 2 ≤ y.l.length := by rw [hyl]; simp
      have hst : stepOf y = (a.s, b.s, (y.l.drop 2).map cleanS) := by unfold stepOf; rw [hyl]; rfl
      have hgs : ToC (.agg [.c (.v (.string a.s)), .c (.v (.string b.s)), .c (.sl 5 (((y.l.drop 2).map cleanS).map V.cv))]) (GT.g (a.s, b.s, (y.l.drop 2).map cleanS)) := .agg rfl fun j x z hx hz => by
        match j with
        | 0 => obtain rfl := Option.some.inj hx; obtain rfl := Option.some.inj hz; exact tE rfl
        | 1 => obtain rfl := Option.some.inj hx; obtain rfl := Option.some.inj hz; exact tE rfl
        | 2 => obtain rfl := Option.some.inj hx; obtain rfl := Option.some.inj hz; exact tE rfl
        | j + 3 => simp at hx
      have hlk : ((l.take (k + 1)).map stepOf).length = k + 1 := by rw [List.length_map, List.length_take]; omega
      (repeat' (first | refine CQ.seq ?_ | refine CQ.block ?_ | ((first | apply CQ.rT hU | apply CQ.rD hU); (· (repeat (first | exact RunL.nil | (apply RunL.op; (first | ((first | apply sv | (apply gv; (· rfl); (· rfl)) | (apply gvB; (· rfl); (· rfl); (· assumption))); (first | exact .callP rfl rfl ta (hcs) | exact (ixV (l := l) (y := y) rfl rfl (by omega) (by exact hy) rfl rfl rfl rfl) | exact (ixV (l := y.l) (y := a) rfl rfl (by decide) hya rfl rfl rfl rfl) | exact (ixV (l := y.l) (y := b) rfl rfl (by decide) hyb rfl rfl rfl rfl) | exact (slSuf (l := y.l) (k := 2) rfl hy2l rfl rfl rfl rfl rfl rfl) | exact (bsG (G := GT) (vs := [(a.s, b.s, (y.l.drop 2).map cleanS)]) (.cons hgs .nil) rfl rfl rfl rfl rfl rfl rfl rfl) | (apply bsG (G := GT); (· repeat (first | exact ToGs.nil | (apply ToGs.cons; first | exact tE rfl))); (· rfl); (· rfl); (· rfl); (· rfl); (· rfl); (· rfl); (· rfl); (· rfl)) | exact vv)) | exact gn rfl rfl rfl | exact gnU rfl rfl | exact gnB rfl rfl (by assumption) rfl | (· apply so; first | exact apNG (G := GT) rfl rfl rfl rfl rfl rfl rfl rfl (Nat.le_of_ble_eq_true rfl) | (apply apMG (G := GT) rfl rfl; (· first | rfl | assumption | (simp; omega)); (· rfl); (· rfl); (· rfl); (· rfl); (· rfl); (· rfl); (· rfl); (· first | (simp; omega) | omega); (· exact Nat.le_of_ble_eq_true rfl)) | exact oo) | exact gR rfl rfl oo | exact so rr | exact gR rfl rfl rr | exact gRB rfl rfl (by assumption) oo | exact gRB rfl rfl (by assumption) rr))))); (· kernel_rfl); clear hU; intro hU) | refine CQ.condT rfl ?_ | refine CQ.condF rfl ?_ | refine CQ.condT (hbl ‹_›) ?_ | refine CQ.condF (hbl ‹_›) ?_ | refine CQ.ret ?_ | refine CQ.skip ?_ | refine CQ.exit ?_ | (apply CQ.cond rfl <;> intro hb)))
      refine ⟨k + 2, hk', by omega, ?_⟩
      (refine wkS ?_ ?_; (all_goals (repeat' (first | exact wkB | refine wkP ?_ ?_ | exact wkMB | refine wkMP rfl ?_ ?_ | exact wkOr rfl | exact wkB0 | refine wkBx ?_ ?_ | refine wkOa ?_ | exact wr rfl | exact wE rfl rfl | exact wNV rfl | exact wLV rfl | exact wMs rfl rfl rfl rfl rfl | exact wCv rfl rfl | exact wCv' rfl rfl | exact wNil rfl rfl | exact wF rfl (LeC.fl _) | apply wV5 rfl | apply wCv rfl | apply wCv' rfl | apply wE rfl | apply wMs rfl rfl rfl rfl | refine wMs rfl rfl ?_ rfl ?_))))
      · (rw [wrap_id (by omega) (by omega)]; first | done | rfl)
      · rw [map_takeG _ hy, hst]
end Go.Proofs.Ytbjcckjhfjhicaa
