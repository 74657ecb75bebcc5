/- Walks: the law of steps told in order. -/
import Derived.Test.YtbjcckjhfjhicaaG20
import Derived.Test.YtbjcckjhfjhicaaO
namespace Go.Proofs.Ytbjcckjhfjhicaa
open Go Go.AM
set_option linter.unusedVariables false
set_option maxHeartbeats 4000000
set_option maxRecDepth 100000
set_option linter.unusedSimpArgs false

def nmS (c a : Int) : ByteArray := strOfNums [c, a]
def itV (i q : Nat) : V := intV' (IntKind.i64.wrap ((i : Int) + (q : Int)))
/-- A step with so many arguments, as far as it is made. -/
def rowN (a : Int) (i j : Nat) : List V := [textV (nmS 103 a), textV (nmS 109 a)] ++ (List.range j).map (itV i)
def stN (ns : List Int) (X i : Nat) : V := .mk 4 0 0 ⟨#[]⟩ (rowN (ns.getD i 0) i X)
def stsN (ns : List Int) (X k : Nat) : List V := (List.range k).map (stN ns X)
theorem rowN_len (a : Int) (i j : Nat) : (rowN a i j).length = 2 + j := by simp [rowN]; omega
theorem rowN_succ (a : Int) (i j : Nat) : rowN a i j ++ [itV i j] = rowN a i (j + 1) := by simp [rowN, List.range_succ]
theorem stsN_len (ns : List Int) (X k : Nat) : (stsN ns X k).length = k := by simp [stsN]
theorem stsN_succ (ns : List Int) (X k : Nat) : stsN ns X k ++ [stN ns X k] = stsN ns X (k + 1) := by simp [stsN, List.range_succ]
theorem nmS_size (c a : Int) : (nmS c a).size = 2 := by unfold nmS; rw [strOfNums_size]; rfl
theorem stN_right (ns : List Int) {X : Nat} (h : X < 6) (i : Nat) : checkS (stN ns X i) = 0 ∧ stepS (stN ns X i) = true := by
  unfold stN
  generalize ns.getD i 0 = a
  have h1 := nmS_size 103 a
  have h2 := nmS_size 109 a
  generalize hg : nmS 103 a = s at h1
  generalize hm : nmS 109 a = t at h2
  have hit : ∀ q, ∃ z, itV i q = .mk 1 z 0 ⟨#[]⟩ [] := fun q => ⟨_, rfl⟩
  have hrow : rowN a i X = [V.mk 3 0 0 s [], V.mk 3 0 0 t []] ++ (List.range X).map (itV i) := by rw [← hg, ← hm]; rfl
  rw [hrow]
  have w2 : IntKind.i64.wrap (3 + ((2 : Nat) : Int)) = 5 := by rfl
  obtain ⟨z0, e0⟩ := hit 0
  obtain ⟨z1, e1⟩ := hit 1
  obtain ⟨z2, e2⟩ := hit 2
  obtain ⟨z3, e3⟩ := hit 3
  obtain ⟨z4, e4⟩ := hit 4
  have hk : ∀ l : List V, kindsS (V.mk 4 0 0 ⟨#[]⟩ l) = l.all kindsS := fun l => by rw [kindsS_eq, kindssS_eq]; rfl
  have hgr : ∀ l : List V, greatS (V.mk 4 0 0 ⟨#[]⟩ l) 8 = (decide ((l.length : Int) > 64) || l.any (greatS · 7)) := fun l => by rw [greatS_eq, greatsS_eq]; simp [V.kind, V.l]
  have hsz : ∀ l : List V, sizeS (V.mk 4 0 0 ⟨#[]⟩ l) = sizesS l 2 := fun l => by rw [sizeS_eq]; rfl
  have ks : kindsS (.mk 3 0 0 s []) = true := by rw [kindsS_eq]; rfl
  have kt : kindsS (.mk 3 0 0 t []) = true := by rw [kindsS_eq]; rfl
  have ki : ∀ z, kindsS (.mk 1 z 0 ⟨#[]⟩ []) = true := fun z => by rw [kindsS_eq]; rfl
  have gs : greatS (.mk 3 0 0 s []) 7 = false := by rw [greatS_eq]; show decide ((s.size : Int) > 256) = false; rw [h1]; rfl
  have gt : greatS (.mk 3 0 0 t []) 7 = false := by rw [greatS_eq]; show decide ((t.size : Int) > 256) = false; rw [h2]; rfl
  have gi : ∀ z, greatS (.mk 1 z 0 ⟨#[]⟩ []) 7 = false := fun z => by rw [greatS_eq]; rfl
  have ss : sizeS (.mk 3 0 0 s []) = 5 := by rw [sizeS_eq]; show IntKind.i64.wrap (3 + (s.size : Int)) = 5; rw [h1]; rfl
  have st : sizeS (.mk 3 0 0 t []) = 5 := by rw [sizeS_eq]; show IntKind.i64.wrap (3 + (t.size : Int)) = 5; rw [h2]; rfl
  have si : ∀ z, sizeS (.mk 1 z 0 ⟨#[]⟩ []) = 9 := fun z => by rw [sizeS_eq]; rfl
  have ns : namedS (.mk 3 0 0 s []) = true := by show (decide ((s.size : Int) ≥ 1) && decide ((s.size : Int) ≤ 32)) = true; rw [h1]; rfl
  have nt : namedS (.mk 3 0 0 t []) = true := by show (decide ((t.size : Int) ≥ 1) && decide ((t.size : Int) ≤ 32)) = true; rw [h2]; rfl
  constructor
  · unfold checkS
    rw [hk, hgr, hsz]
    match X, h with
    | 0, _ => simp only [List.range_zero, List.map_nil, List.append_nil, List.all_cons, List.all_nil, List.any_cons, List.any_nil, ks, kt, gs, gt, sizesS, ss, st]; rfl
    | 1, _ => simp only [List.range_succ, List.range_zero, List.map_append, List.map_cons, List.map_nil, List.nil_append, List.cons_append, e0, List.all_cons, List.all_nil, List.any_cons, List.any_nil, ks, kt, ki, gs, gt, gi, sizesS, ss, st, si]; rfl
    | 2, _ => simp only [List.range_succ, List.range_zero, List.map_append, List.map_cons, List.map_nil, List.nil_append, List.cons_append, e0, e1, List.all_cons, List.all_nil, List.any_cons, List.any_nil, ks, kt, ki, gs, gt, gi, sizesS, ss, st, si]; rfl
    | 3, _ => simp only [List.range_succ, List.range_zero, List.map_append, List.map_cons, List.map_nil, List.nil_append, List.cons_append, e0, e1, e2, List.all_cons, List.all_nil, List.any_cons, List.any_nil, ks, kt, ki, gs, gt, gi, sizesS, ss, st, si]; rfl
    | 4, _ => simp only [List.range_succ, List.range_zero, List.map_append, List.map_cons, List.map_nil, List.nil_append, List.cons_append, e0, e1, e2, e3, List.all_cons, List.all_nil, List.any_cons, List.any_nil, ks, kt, ki, gs, gt, gi, sizesS, ss, st, si]; rfl
    | 5, _ => simp only [List.range_succ, List.range_zero, List.map_append, List.map_cons, List.map_nil, List.nil_append, List.cons_append, e0, e1, e2, e3, e4, List.all_cons, List.all_nil, List.any_cons, List.any_nil, ks, kt, ki, gs, gt, gi, sizesS, ss, st, si]; rfl
  · unfold stepS
    show (true && (decide ((([V.mk 3 0 0 s [], V.mk 3 0 0 t []] ++ (List.range X).map (itV i)).length : Int) ≥ 2) && (namedS (.mk 3 0 0 s []) && namedS (.mk 3 0 0 t [])))) = true
    rw [ns, nt]
    simp
    omega
def agN (X i : Nat) : List V := (List.range X).map (itV i)
def plN (ns : List Int) (X k : Nat) : List Step := (List.range k).map fun i => (nmS 103 (ns.getD i 0), nmS 109 (ns.getD i 0), agN X i)
theorem plan_steps (ns : List Int) {X k : Nat} (h : X < 6) (h1 : 1 ≤ k) (h8 : k ≤ 8) : planS (stsN ns X k) = (plN ns X k, 0) := by
  have hc : ∀ x ∈ stsN ns X k, checkS x = 0 ∧ stepS x = true := fun x hx => by
    obtain ⟨i, _, rfl⟩ := List.mem_map.1 hx
    exact stN_right ns h i
  have hr : checkR sOrch sRun (stsN ns X k) = 0 := by
    rw [run_check _ fun x hx => (hc x hx).1, stsN_len, if_neg (by simp; omega), if_pos (List.all_eq_true.2 fun x hx => (hc x hx).2)]
  unfold planS
  rw [hr, if_neg (by decide)]
  congr 1
  unfold stsN plN
  rw [List.map_map]
  refine List.map_congr_left fun i _ => ?_
  show stepOf (stN ns X i) = _
  unfold stepOf stN rowN agN
  simp only [V.l_mk]
  refine congrArg (fun x => (nmS 103 (ns.getD i 0), nmS 109 (ns.getD i 0), x)) ?_
  show ((List.range X).map (itV i)).map cleanS = _
  rw [List.map_map]
  refine List.map_congr_left fun q _ => ?_
  show cleanS (V.mk 1 _ 0 ⟨#[]⟩ []) = _
  rw [cleanS_eq]; rfl
theorem orchSteps_c (ns : List Int) (n : Nat) (hn : n < 256) : Pure env.P 9 [.sl 1 (ns.map (GI .u8).g), .v (.int .u8 n)] [.v (.bool true)] := by
  refine Pure.go (E := env) Try.func9 rfl rfl rfl (Nat.le_of_ble_eq_true rfl) (Nat.le_of_ble_eq_true rfl) ?_; rintro ⟨w0, T0, L0, n, r0, hn0, hT0⟩ hn hT hU; obtain rfl : n = _ := hn
  have hkn := known13_c
  obtain ⟨X, hX⟩ : ∃ X, X = n % 6 := ⟨_, rfl⟩
  have hX6 : X < 6 := by omega
  have hXw : IntKind.i64.wrap ((n : Int).tmod 6) = (X : Int) := by rw [Int.tmod_eq_emod_of_nonneg (by omega), wrap_id (by omega) (by omega)]; omega
  clear hX
  cases h0 : ((ns.length : Int) == 0)
  rotate_left
  · (repeat' (first | refine CQ.seq ?_ | refine CQ.block ?_ | ((first | apply CQ.rT hU | apply CQ.rD hU); (· (repeat (first | exact RunL.nil | (apply RunL.op; (first | ((first | apply sv | (apply gv; (· rfl); (· rfl)) | (apply gvB; (· rfl); (· rfl); (· assumption))); (first | exact .callP rfl rfl ta (hkn) | exact (lnG (G := GI .u8) rfl rfl rfl) | exact vv)) | exact gn rfl rfl rfl | exact gnU rfl rfl | exact gnB rfl rfl (by assumption) rfl | exact so oo | exact gR rfl rfl oo | exact so rr | exact gR rfl rfl rr | exact gRB rfl rfl (by assumption) oo | exact gRB rfl rfl (by assumption) rr))))); (· kernel_rfl); clear hU; intro hU) | refine CQ.condT rfl ?_ | refine CQ.condF rfl ?_ | refine CQ.condT (hbl ‹_›) ?_ | refine CQ.condF (hbl ‹_›) ?_ | refine CQ.ret ?_ | refine CQ.skip ?_ | refine CQ.exit ?_ | (apply CQ.cond rfl <;> intro hb)))
    (repeat' (first | (apply retC; (first | (apply RetA.tmp; (repeat' (first | exact rfl | exact wE rfl rfl | exact wNV rfl | exact wLV rfl | exact wMs rfl rfl rfl rfl rfl | exact wCv rfl rfl | exact wCv' rfl rfl | exact wNil rfl rfl | exact wF rfl (LeC.fl _) | exact wF rfl (LeC.refl _) | apply wV5 rfl | apply wCv rfl | apply wCv' rfl | apply wE rfl | apply wMs rfl rfl rfl rfl | refine wMs rfl rfl ?_ rfl ?_))) | (apply RetA.cellS rfl rfl rfl rfl rfl; (repeat' (first | exact rfl | exact wE rfl rfl | exact wNV rfl | exact wLV rfl | exact wMs rfl rfl rfl rfl rfl | exact wCv rfl rfl | exact wCv' rfl rfl | exact wNil rfl rfl | exact wF rfl (LeC.fl _) | exact wF rfl (LeC.refl _) | apply wV5 rfl | apply wCv rfl | apply wCv' rfl | apply wE rfl | apply wMs rfl rfl rfl rfl | refine wMs rfl rfl ?_ rfl ?_))) | (apply RetA.cellW rfl rfl rfl rfl rfl; (repeat' (first | exact rfl | exact wE rfl rfl | exact wNV rfl | exact wLV rfl | exact wMs rfl rfl rfl rfl rfl | exact wCv rfl rfl | exact wCv' rfl rfl | exact wNil rfl rfl | exact wF rfl (LeC.fl _) | exact wF rfl (LeC.refl _) | apply wV5 rfl | apply wCv rfl | apply wCv' rfl | apply wE rfl | apply wMs rfl rfl rfl rfl | refine wMs rfl rfl ?_ rfl ?_))))) | exact retN))
  cases h8 : decide ((ns.length : Int) > 8)
  rotate_left
  · (repeat' (first | refine CQ.seq ?_ | refine CQ.block ?_ | ((first | apply CQ.rT hU | apply CQ.rD hU); (· (repeat (first | exact RunL.nil | (apply RunL.op; (first | ((first | apply sv | (apply gv; (· rfl); (· rfl)) | (apply gvB; (· rfl); (· rfl); (· assumption))); (first | exact .callP rfl rfl ta (hkn) | exact (lnG (G := GI .u8) rfl rfl rfl) | exact vv)) | exact gn rfl rfl rfl | exact gnU rfl rfl | exact gnB rfl rfl (by assumption) rfl | exact so oo | exact gR rfl rfl oo | exact so rr | exact gR rfl rfl rr | exact gRB rfl rfl (by assumption) oo | exact gRB rfl rfl (by assumption) rr))))); (· kernel_rfl); clear hU; intro hU) | refine CQ.condT rfl ?_ | refine CQ.condF rfl ?_ | refine CQ.condT (hbl ‹_›) ?_ | refine CQ.condF (hbl ‹_›) ?_ | refine CQ.ret ?_ | refine CQ.skip ?_ | refine CQ.exit ?_ | (apply CQ.cond rfl <;> intro hb)))
    (repeat' (first | (apply retC; (first | (apply RetA.tmp; (repeat' (first | exact rfl | exact wE rfl rfl | exact wNV rfl | exact wLV rfl | exact wMs rfl rfl rfl rfl rfl | exact wCv rfl rfl | exact wCv' rfl rfl | exact wNil rfl rfl | exact wF rfl (LeC.fl _) | exact wF rfl (LeC.refl _) | apply wV5 rfl | apply wCv rfl | apply wCv' rfl | apply wE rfl | apply wMs rfl rfl rfl rfl | refine wMs rfl rfl ?_ rfl ?_))) | (apply RetA.cellS rfl rfl rfl rfl rfl; (repeat' (first | exact rfl | exact wE rfl rfl | exact wNV rfl | exact wLV rfl | exact wMs rfl rfl rfl rfl rfl | exact wCv rfl rfl | exact wCv' rfl rfl | exact wNil rfl rfl | exact wF rfl (LeC.fl _) | exact wF rfl (LeC.refl _) | apply wV5 rfl | apply wCv rfl | apply wCv' rfl | apply wE rfl | apply wMs rfl rfl rfl rfl | refine wMs rfl rfl ?_ rfl ?_))) | (apply RetA.cellW rfl rfl rfl rfl rfl; (repeat' (first | exact rfl | exact wE rfl rfl | exact wNV rfl | exact wLV rfl | exact wMs rfl rfl rfl rfl rfl | exact wCv rfl rfl | exact wCv' rfl rfl | exact wNil rfl rfl | exact wF rfl (LeC.fl _) | exact wF rfl (LeC.refl _) | apply wV5 rfl | apply wCv rfl | apply wCv' rfl | apply wE rfl | apply wMs rfl rfl rfl rfl | refine wMs rfl rfl ?_ rfl ?_))))) | exact retN))
  have h1 : 1 ≤ ns.length := by simp at h0; have := List.length_pos_iff.2 h0; omega
  have h8' : ns.length ≤ 8 := by simp at h8; omega
  (repeat' (first | refine CQ.seq ?_ | refine CQ.block ?_ | ((first | apply CQ.rT hU | apply CQ.rD hU); (· (repeat (first | exact RunL.nil | (apply RunL.op; (first | ((first | apply sv | (apply gv; (· rfl); (· rfl)) | (apply gvB; (· rfl); (· rfl); (· assumption))); (first | exact .callP rfl rfl ta (hkn) | exact (lnG (G := GI .u8) rfl rfl rfl) | exact vv)) | exact gn rfl rfl rfl | exact gnU rfl rfl | exact gnB rfl rfl (by assumption) rfl | exact so oo | exact gR rfl rfl oo | exact so rr | exact gR rfl rfl rr | exact gRB rfl rfl (by assumption) oo | exact gRB rfl rfl (by assumption) rr))))); (· kernel_rfl); clear hU; intro hU) | refine CQ.condT rfl ?_ | refine CQ.condF rfl ?_ | refine CQ.condT (hbl ‹_›) ?_ | refine CQ.condF (hbl ‹_›) ?_ | refine CQ.ret ?_ | refine CQ.skip ?_ | refine CQ.exit ?_ | (apply CQ.cond rfl <;> intro hb)))
  refine CQ.loop hT (fun k : Nat => match k with | 0 => ⟨mkT [(0, .c (.sl 1 (ns.map (GI .u8).g))), (1, .c (.v (.int .u8 n))), (5, .c (.v (.slice none 0 0))), (6, .c (.v (.int .i64 0)))], mkM []⟩ | k + 1 => ⟨mkT [(0, .c (.sl 1 (ns.map (GI .u8).g))), (1, .c (.v (.int .u8 n))), (5, .ms 64 (k + 1)), (6, .c (.v (.int .i64 ((k + 1 : Nat) : Int))))], mkM [(64, .arr 5 34 ((stsN ns X (k + 1)).map V.cv))]⟩) (fun k => k ≤ ns.length) (fun k => ns.length - k) 0 (Nat.zero_le _) ?_ ?_
  · (refine wkS ?_ ?_; (all_goals (repeat' (first | exact wkB | refine wkP ?_ ?_ | exact wkMB | refine wkMP rfl ?_ ?_ | exact wkOr rfl | exact wkB0 | refine wkBx ?_ ?_ | refine wkOa ?_ | exact wr rfl | exact wE rfl rfl | exact wNV rfl | exact wLV rfl | exact wMs rfl rfl rfl rfl rfl | exact wCv rfl rfl | exact wCv' rfl rfl | exact wNil rfl rfl | exact wF rfl (LeC.fl _) | apply wV5 rfl | apply wCv rfl | apply wCv' rfl | apply wE rfl | apply wMs rfl rfl rfl rfl | refine wMs rfl rfl ?_ rfl ?_))))
  clear hU
  rintro (_ | k) hk
  · have hU : Fresh [] ⟨mkT [(0, .c (.sl 1 (ns.map (GI .u8).g))), (1, .c (.v (.int .u8 n))), (5, .c (.v (.slice none 0 0))), (6, .c (.v (.int .i64 0)))], mkM []⟩ := by exact fr
    have hb : decide ((0 : Int) < (ns.length : Int)) = true := by simp; omega
    obtain ⟨a, ha⟩ : ∃ a, a = ns.getD 0 0 := ⟨_, rfl⟩
    have hna : ns[0]? = some a := by rw [ha]; simp [List.getD, List.getElem?_eq_getElem (show 0 < ns.length by omega)]
    have hnb : (ns.map (GI .u8).g)[(0 : Int).toNat]? = some ((GI .u8).g a) := gy (G := GI .u8) hna
    have hst : stN ns X 0 = V.mk 4 0 0 ⟨#[]⟩ (rowN a 0 X) := by unfold stN; rw [← ha]
    have htg := text_c (nmS 103 a)
    have htm := text_c (nmS 109 a)
    have hlo := listO 43 [textV (nmS 103 a), textV (nmS 109 a)] 2 rfl (by decide)
    (repeat' (first | refine CQ.seq ?_ | refine CQ.block ?_ | ((first | apply CQ.rT hU | apply CQ.rD hU); (· (repeat (first | exact RunL.nil | (apply RunL.op; (first | ((first | apply sv | (apply gv; (· rfl); (· rfl)) | (apply gvB; (· rfl); (· rfl); (· assumption))); (first | exact (lnG (G := GI .u8) rfl rfl rfl) | exact vv)) | exact gn rfl rfl rfl | exact gnU rfl rfl | exact gnB rfl rfl (by assumption) rfl | exact so oo | exact gR rfl rfl oo | exact so rr | exact gR rfl rfl rr | exact gRB rfl rfl (by assumption) oo | exact gRB rfl rfl (by assumption) rr))))); (· kernel_rfl); clear hU; intro hU) | refine CQ.condT rfl ?_ | refine CQ.condF rfl ?_ | refine CQ.condT (hbl ‹_›) ?_ | refine CQ.condF (hbl ‹_›) ?_ | refine CQ.ret ?_ | refine CQ.skip ?_ | refine CQ.exit ?_ | (apply CQ.cond rfl <;> intro hb)))
    first | apply CQ.rT hU | apply CQ.rD hU
    · (iterate 14 ((apply RunL.op; (first | ((first | apply sv | (apply gv; (· rfl); (· rfl)) | (apply gvB; (· rfl); (· rfl); (· assumption))); (first | exact (.idxC rfl rfl (by omega) hnb rfl rfl rfl rfl) | exact (bsG (G := GI .u8) (vs := [103, a]) (.cons (tE rfl) (.cons (tE rfl) .nil)) rfl rfl rfl rfl rfl rfl rfl rfl) | exact (bsG (G := GI .u8) (vs := [109, a]) (.cons (tE rfl) (.cons (tE rfl) .nil)) rfl rfl rfl rfl rfl rfl rfl rfl) | exact (.convB (bs := [103, a]) rfl rfl rfl rfl rfl rfl rfl) | exact (.convB (bs := [109, a]) rfl rfl rfl rfl rfl rfl rfl) | exact .callP rfl rfl ta (htg) | exact .callP rfl rfl ta (htm) | exact vv)) | exact gn rfl rfl rfl | exact gnU rfl rfl | exact gnB rfl rfl (by assumption) rfl | exact so oo | exact gR rfl rfl oo | exact so rr | exact gR rfl rfl rr | exact gRB rfl rfl (by assumption) oo | exact gRB rfl rfl (by assumption) rr))))
      apply RunL.op
      · apply so; exact bsMV (vs := [textV (nmS 103 a), textV (nmS 109 a)]) (.cons (tE rfl) (.cons (tE rfl) .nil)) rfl rfl rfl rfl rfl rfl rfl
      (repeat (first | exact RunL.nil | (apply RunL.op; (first | ((first | apply sv | (apply gv; (· rfl); (· rfl)) | (apply gvB; (· rfl); (· rfl); (· assumption))); (first | exact vv)) | exact gn rfl rfl rfl | exact gnU rfl rfl | exact gnB rfl rfl (by assumption) rfl | exact so ((coP1 rfl hlo rfl tas)) | exact gR rfl rfl ((coP1 rfl hlo rfl tas)) | exact gRB rfl rfl (by assumption) ((coP1 rfl hlo rfl tas)) | exact so oo | exact gR rfl rfl oo | exact so rr | exact gR rfl rfl rr | exact gRB rfl rfl (by assumption) oo | exact gRB rfl rfl (by assumption) rr))))
    · kernel_rfl
    clear hU; intro hU
    (repeat' (first | refine CQ.seq ?_ | refine CQ.block ?_ | ((first | apply CQ.rT hU | apply CQ.rD hU); (· (repeat (first | exact RunL.nil | (apply RunL.op; (first | ((first | apply sv | (apply gv; (· rfl); (· rfl)) | (apply gvB; (· rfl); (· rfl); (· assumption))); (first | exact vv)) | exact gn rfl rfl rfl | exact gnU rfl rfl | exact gnB rfl rfl (by assumption) rfl | exact so oo | exact gR rfl rfl oo | exact so rr | exact gR rfl rfl rr | exact gRB rfl rfl (by assumption) oo | exact gRB rfl rfl (by assumption) rr))))); (· kernel_rfl); clear hU; intro hU) | refine CQ.condT rfl ?_ | refine CQ.condF rfl ?_ | refine CQ.condT (hbl ‹_›) ?_ | refine CQ.condF (hbl ‹_›) ?_ | refine CQ.ret ?_ | refine CQ.skip ?_ | refine CQ.exit ?_ | (apply CQ.cond rfl <;> intro hb)))
    refine CQ.loop hT (fun j : Nat => match j with | 0 => ⟨mkT [(0, .c (.sl 1 (ns.map (GI .u8).g))), (1, .c (.v (.int .u8 n))), (5, .c (.v (.slice none 0 0))), (6, .c (.v (.int .i64 0))), (7, .loc 7 0), (8, .c (.v (.int .i64 0)))], mkM [(43, .arr 5 34 ((rowN a 0 0).map V.cv)), (7, .box (outB (.ms 43 2)))]⟩ | j + 1 => ⟨mkT [(0, .c (.sl 1 (ns.map (GI .u8).g))), (1, .c (.v (.int .u8 n))), (5, .c (.v (.slice none 0 0))), (6, .c (.v (.int .i64 0))), (7, .loc 7 0), (8, .c (.v (.int .i64 ((j + 1 : Nat) : Int))))], mkM [(59, .arr 5 34 ((rowN a 0 (j + 1)).map V.cv)), (7, .box (outB (.ms 59 (2 + (j + 1)))))]⟩) (fun j => j ≤ X) (fun j => X - j) 0 (Nat.zero_le _) ?_ ?_
    · (refine wkS ?_ ?_; (all_goals (repeat' (first | exact wkB | refine wkP ?_ ?_ | exact wkMB | refine wkMP rfl ?_ ?_ | exact wkOr rfl | exact wkB0 | refine wkBx ?_ ?_ | refine wkOa ?_ | exact wr rfl | exact wE rfl rfl | exact wNV rfl | exact wLV rfl | exact wMs rfl rfl rfl rfl rfl | exact wCv rfl rfl | exact wCv' rfl rfl | exact wNil rfl rfl | exact wF rfl (LeC.fl _) | apply wV5 rfl | apply wCv rfl | apply wCv' rfl | apply wE rfl | apply wMs rfl rfl rfl rfl | refine wMs rfl rfl ?_ rfl ?_))))
    clear hU
    rintro (_ | j) hj
    · have hU : Fresh [43, 7] ⟨mkT [(0, .c (.sl 1 (ns.map (GI .u8).g))), (1, .c (.v (.int .u8 n))), (5, .c (.v (.slice none 0 0))), (6, .c (.v (.int .i64 0))), (7, .loc 7 0), (8, .c (.v (.int .i64 0)))], mkM [(43, .arr 5 34 ((rowN a 0 0).map V.cv)), (7, .box (outB (.ms 43 2)))]⟩ := by exact fr
      have hrl : ((rowN a 0 0)).length = 2 := rfl
      cases hb2 : decide ((0 : Int) < IntKind.i64.wrap ((n : Int).tmod 6))
      · obtain rfl : X = 0 := by rw [hXw] at hb2; simp at hb2; omega
        clear hU
        refine CQ.weak (s' := ⟨mkT [(0, .c (.sl 1 (ns.map (GI .u8).g))), (1, .c (.v (.int .u8 n))), (5, .c (.v (.slice none 0 0))), (6, .c (.v (.int .i64 0))), (7, .loc 7 0), (8, .c (.v (.int .i64 0)))], mkM [(7, .box (outB (.c (.sl 5 ((rowN a 0 0).map V.cv)))))]⟩) ?_ hT ?_
        · (refine wkS ?_ ?_; (all_goals (repeat' (first | exact wkB | refine wkP ?_ ?_ | exact wkMB | refine wkMP rfl ?_ ?_ | exact wkOr rfl | exact wkB0 | refine wkBx ?_ ?_ | refine wkOa ?_ | exact wr rfl | exact wE rfl rfl | exact wNV rfl | exact wLV rfl | exact wMs rfl rfl rfl rfl rfl | exact wCv rfl rfl | exact wCv' rfl rfl | exact wNil rfl rfl | exact wF rfl (LeC.fl _) | apply wV5 rfl | apply wCv rfl | apply wCv' rfl | apply wE rfl | apply wMs rfl rfl rfl rfl | refine wMs rfl rfl ?_ rfl ?_))))
          all_goals first | rfl | (simp [rowN]; done) | (simp [rowN]; omega)
        have hU : Fresh [7] ⟨mkT [(0, .c (.sl 1 (ns.map (GI .u8).g))), (1, .c (.v (.int .u8 n))), (5, .c (.v (.slice none 0 0))), (6, .c (.v (.int .i64 0))), (7, .loc 7 0), (8, .c (.v (.int .i64 0)))], mkM [(7, .box (outB (.c (.sl 5 ((rowN a 0 0).map V.cv)))))]⟩ := by exact fr
        (repeat' (first | refine CQ.seq ?_ | refine CQ.block ?_ | ((first | apply CQ.rT hU | apply CQ.rD hU); (· (repeat (first | exact RunL.nil | (apply RunL.op; (first | ((first | apply sv | (apply gv; (· rfl); (· rfl)) | (apply gvB; (· rfl); (· rfl); (· assumption))); (first | exact vv)) | exact gn rfl rfl rfl | exact gnU rfl rfl | exact gnB rfl rfl (by assumption) rfl | exact so oo | exact gR rfl rfl oo | exact so rr | exact gR rfl rfl rr | exact gRB rfl rfl (by assumption) oo | exact gRB rfl rfl (by assumption) rr))))); (· kernel_rfl); clear hU; intro hU) | refine CQ.condT rfl ?_ | refine CQ.condF rfl ?_ | refine CQ.condT (hbl ‹_›) ?_ | refine CQ.condF (hbl ‹_›) ?_ | refine CQ.ret ?_ | refine CQ.skip ?_ | refine CQ.exit ?_ | (apply CQ.cond rfl <;> intro hb)))
        refine ⟨1, by omega, by omega, ?_⟩
        (refine wkS ?_ ?_; (all_goals (repeat' (first | exact wkB | refine wkP ?_ ?_ | exact wkMB | refine wkMP rfl ?_ ?_ | exact wkOr rfl | exact wkB0 | refine wkBx ?_ ?_ | refine wkOa ?_ | exact wr rfl | exact wE rfl rfl | exact wNV rfl | exact wLV rfl | exact wMs rfl rfl rfl rfl rfl | exact wCv rfl rfl | exact wCv' rfl rfl | exact wNil rfl rfl | exact wF rfl (LeC.fl _) | apply wV5 rfl | apply wCv rfl | apply wCv' rfl | apply wE rfl | apply wMs rfl rfl rfl rfl | refine wMs rfl rfl ?_ rfl ?_))))
        all_goals first | rfl | (rw [wrap_id (by omega) (by omega)]; rfl) | (refine congrArg (List.map V.cv) ?_; rw [← hst]; exact stsN_succ _ _ _) | (rw [← hst]; exact congrArg (List.map V.cv) (stsN_succ _ _ _)) | (rw [← stsN_succ, hst]; done) | (rw [← stsN_succ, hst]; rfl)
      · have hjX : 0 < X := by rw [hXw] at hb2; simp at hb2; omega
        have hin : Pure env.P 31 [.v (.int .i64 (IntKind.i64.wrap ((0 : Int) + (0 : Int))))] [(itV 0 0).cv] := int_c _
        have hl3 : (((rowN a 0 0) ++ [itV 0 0]).map V.cv).length = 2 + [itV 0 0].length := by simp [hrl]
        have hbb : 2 + [itV 0 0].length ≤ 1000000 := by simp <;> omega
        (repeat' (first | refine CQ.seq ?_ | refine CQ.block ?_ | ((first | apply CQ.rT hU | apply CQ.rD hU); (· (repeat (first | exact RunL.nil | (apply RunL.op; (first | ((first | apply sv | (apply gv; (· rfl); (· rfl)) | (apply gvB; (· rfl); (· rfl); (· assumption))); (first | exact .callP rfl rfl ta (hin) | exact vv)) | exact gn rfl rfl rfl | exact gnU rfl rfl | exact gnB rfl rfl (by assumption) rfl | exact so ((apM (xs := (rowN a 0 0)) (ys := [itV 0 0]) rfl rfl hrl rfl rfl rfl rfl rfl rfl hbb (Nat.le_of_ble_eq_true rfl))) | exact gR rfl rfl ((apM (xs := (rowN a 0 0)) (ys := [itV 0 0]) rfl rfl hrl rfl rfl rfl rfl rfl rfl hbb (Nat.le_of_ble_eq_true rfl))) | exact gRB rfl rfl (by assumption) ((apM (xs := (rowN a 0 0)) (ys := [itV 0 0]) rfl rfl hrl rfl rfl rfl rfl rfl rfl hbb (Nat.le_of_ble_eq_true rfl))) | exact so oo | exact gR rfl rfl oo | exact so rr | exact gR rfl rfl rr | exact gRB rfl rfl (by assumption) oo | exact gRB rfl rfl (by assumption) rr))))); (· kernel_rfl); clear hU; intro hU) | refine CQ.condT rfl ?_ | refine CQ.condF rfl ?_ | refine CQ.condT (hbl ‹_›) ?_ | refine CQ.condF (hbl ‹_›) ?_ | refine CQ.ret ?_ | refine CQ.skip ?_ | refine CQ.exit ?_ | (apply CQ.cond rfl <;> intro hb)))
        refine ⟨1, by omega, by omega, ?_⟩
        (refine wkS ?_ ?_; (all_goals (repeat' (first | exact wkB | refine wkP ?_ ?_ | exact wkMB | refine wkMP rfl ?_ ?_ | exact wkOr rfl | exact wkB0 | refine wkBx ?_ ?_ | refine wkOa ?_ | exact wr rfl | exact wE rfl rfl | exact wNV rfl | exact wLV rfl | exact wMs rfl rfl rfl rfl rfl | exact wCv rfl rfl | exact wCv' rfl rfl | exact wNil rfl rfl | exact wF rfl (LeC.fl _) | apply wV5 rfl | apply wCv rfl | apply wCv' rfl | apply wE rfl | apply wMs rfl rfl rfl rfl | refine wMs rfl rfl ?_ rfl ?_))))
        all_goals first | rfl | (rw [wrap_id (by omega) (by omega)]; rfl) | exact congrArg (List.map V.cv) (rowN_succ a 0 0)
    · have hU : Fresh [59, 7] ⟨mkT [(0, .c (.sl 1 (ns.map (GI .u8).g))), (1, .c (.v (.int .u8 n))), (5, .c (.v (.slice none 0 0))), (6, .c (.v (.int .i64 0))), (7, .loc 7 0), (8, .c (.v (.int .i64 ((j + 1 : Nat) : Int))))], mkM [(59, .arr 5 34 ((rowN a 0 (j + 1)).map V.cv)), (7, .box (outB (.ms 59 (2 + (j + 1)))))]⟩ := by exact fr
      have hrl : ((rowN a 0 (j + 1))).length = 2 + (j + 1) := rowN_len _ _ _
      cases hb2 : decide ((((j + 1 : Nat) : Int) : Int) < IntKind.i64.wrap ((n : Int).tmod 6))
      · obtain rfl : X = (j + 1) := by rw [hXw] at hb2; simp at hb2; omega
        clear hU
        refine CQ.weak (s' := ⟨mkT [(0, .c (.sl 1 (ns.map (GI .u8).g))), (1, .c (.v (.int .u8 n))), (5, .c (.v (.slice none 0 0))), (6, .c (.v (.int .i64 0))), (7, .loc 7 0), (8, .c (.v (.int .i64 ((j + 1 : Nat) : Int))))], mkM [(7, .box (outB (.c (.sl 5 ((rowN a 0 (j + 1)).map V.cv)))))]⟩) ?_ hT ?_
        · (refine wkS ?_ ?_; (all_goals (repeat' (first | exact wkB | refine wkP ?_ ?_ | exact wkMB | refine wkMP rfl ?_ ?_ | exact wkOr rfl | exact wkB0 | refine wkBx ?_ ?_ | refine wkOa ?_ | exact wr rfl | exact wE rfl rfl | exact wNV rfl | exact wLV rfl | exact wMs rfl rfl rfl rfl rfl | exact wCv rfl rfl | exact wCv' rfl rfl | exact wNil rfl rfl | exact wF rfl (LeC.fl _) | apply wV5 rfl | apply wCv rfl | apply wCv' rfl | apply wE rfl | apply wMs rfl rfl rfl rfl | refine wMs rfl rfl ?_ rfl ?_))))
          all_goals first | rfl | (simp [rowN]; done) | (simp [rowN]; omega)
        have hU : Fresh [7] ⟨mkT [(0, .c (.sl 1 (ns.map (GI .u8).g))), (1, .c (.v (.int .u8 n))), (5, .c (.v (.slice none 0 0))), (6, .c (.v (.int .i64 0))), (7, .loc 7 0), (8, .c (.v (.int .i64 ((j + 1 : Nat) : Int))))], mkM [(7, .box (outB (.c (.sl 5 ((rowN a 0 (j + 1)).map V.cv)))))]⟩ := by exact fr
        (repeat' (first | refine CQ.seq ?_ | refine CQ.block ?_ | ((first | apply CQ.rT hU | apply CQ.rD hU); (· (repeat (first | exact RunL.nil | (apply RunL.op; (first | ((first | apply sv | (apply gv; (· rfl); (· rfl)) | (apply gvB; (· rfl); (· rfl); (· assumption))); (first | exact vv)) | exact gn rfl rfl rfl | exact gnU rfl rfl | exact gnB rfl rfl (by assumption) rfl | exact so oo | exact gR rfl rfl oo | exact so rr | exact gR rfl rfl rr | exact gRB rfl rfl (by assumption) oo | exact gRB rfl rfl (by assumption) rr))))); (· kernel_rfl); clear hU; intro hU) | refine CQ.condT rfl ?_ | refine CQ.condF rfl ?_ | refine CQ.condT (hbl ‹_›) ?_ | refine CQ.condF (hbl ‹_›) ?_ | refine CQ.ret ?_ | refine CQ.skip ?_ | refine CQ.exit ?_ | (apply CQ.cond rfl <;> intro hb)))
        refine ⟨1, by omega, by omega, ?_⟩
        (refine wkS ?_ ?_; (all_goals (repeat' (first | exact wkB | refine wkP ?_ ?_ | exact wkMB | refine wkMP rfl ?_ ?_ | exact wkOr rfl | exact wkB0 | refine wkBx ?_ ?_ | refine wkOa ?_ | exact wr rfl | exact wE rfl rfl | exact wNV rfl | exact wLV rfl | exact wMs rfl rfl rfl rfl rfl | exact wCv rfl rfl | exact wCv' rfl rfl | exact wNil rfl rfl | exact wF rfl (LeC.fl _) | apply wV5 rfl | apply wCv rfl | apply wCv' rfl | apply wE rfl | apply wMs rfl rfl rfl rfl | refine wMs rfl rfl ?_ rfl ?_))))
        all_goals first | rfl | (rw [wrap_id (by omega) (by omega)]; rfl) | (refine congrArg (List.map V.cv) ?_; rw [← hst]; exact stsN_succ _ _ _) | (rw [← hst]; exact congrArg (List.map V.cv) (stsN_succ _ _ _)) | (rw [← stsN_succ, hst]; done) | (rw [← stsN_succ, hst]; rfl)
      · have hjX : (j + 1) < X := by rw [hXw] at hb2; simp at hb2; omega
        have hin : Pure env.P 31 [.v (.int .i64 (IntKind.i64.wrap ((0 : Int) + (((j + 1 : Nat) : Int) : Int))))] [(itV 0 (j + 1)).cv] := int_c _
        have hl3 : (((rowN a 0 (j + 1)) ++ [itV 0 (j + 1)]).map V.cv).length = 2 + (j + 1) + [itV 0 (j + 1)].length := by simp [hrl]
        have hbb : 2 + (j + 1) + [itV 0 (j + 1)].length ≤ 1000000 := by simp <;> omega
        (repeat' (first | refine CQ.seq ?_ | refine CQ.block ?_ | ((first | apply CQ.rT hU | apply CQ.rD hU); (· (repeat (first | exact RunL.nil | (apply RunL.op; (first | ((first | apply sv | (apply gv; (· rfl); (· rfl)) | (apply gvB; (· rfl); (· rfl); (· assumption))); (first | exact .callP rfl rfl ta (hin) | exact vv)) | exact gn rfl rfl rfl | exact gnU rfl rfl | exact gnB rfl rfl (by assumption) rfl | exact so ((apM (xs := (rowN a 0 (j + 1))) (ys := [itV 0 (j + 1)]) rfl rfl hrl rfl rfl rfl rfl rfl rfl hbb (Nat.le_of_ble_eq_true rfl))) | exact gR rfl rfl ((apM (xs := (rowN a 0 (j + 1))) (ys := [itV 0 (j + 1)]) rfl rfl hrl rfl rfl rfl rfl rfl rfl hbb (Nat.le_of_ble_eq_true rfl))) | exact gRB rfl rfl (by assumption) ((apM (xs := (rowN a 0 (j + 1))) (ys := [itV 0 (j + 1)]) rfl rfl hrl rfl rfl rfl rfl rfl rfl hbb (Nat.le_of_ble_eq_true rfl))) | exact so oo | exact gR rfl rfl oo | exact so rr | exact gR rfl rfl rr | exact gRB rfl rfl (by assumption) oo | exact gRB rfl rfl (by assumption) rr))))); (· kernel_rfl); clear hU; intro hU) | refine CQ.condT rfl ?_ | refine CQ.condF rfl ?_ | refine CQ.condT (hbl ‹_›) ?_ | refine CQ.condF (hbl ‹_›) ?_ | refine CQ.ret ?_ | refine CQ.skip ?_ | refine CQ.exit ?_ | (apply CQ.cond rfl <;> intro hb)))
        refine ⟨j + 2, by omega, by omega, ?_⟩
        (refine wkS ?_ ?_; (all_goals (repeat' (first | exact wkB | refine wkP ?_ ?_ | exact wkMB | refine wkMP rfl ?_ ?_ | exact wkOr rfl | exact wkB0 | refine wkBx ?_ ?_ | refine wkOa ?_ | exact wr rfl | exact wE rfl rfl | exact wNV rfl | exact wLV rfl | exact wMs rfl rfl rfl rfl rfl | exact wCv rfl rfl | exact wCv' rfl rfl | exact wNil rfl rfl | exact wF rfl (LeC.fl _) | apply wV5 rfl | apply wCv rfl | apply wCv' rfl | apply wE rfl | apply wMs rfl rfl rfl rfl | refine wMs rfl rfl ?_ rfl ?_))))
        all_goals first | rfl | (rw [wrap_id (by omega) (by omega)]; rfl) | exact congrArg (List.map V.cv) (rowN_succ a 0 (j + 1))
  · have hU : Fresh [64] ⟨mkT [(0, .c (.sl 1 (ns.map (GI .u8).g))), (1, .c (.v (.int .u8 n))), (5, .ms 64 (k + 1)), (6, .c (.v (.int .i64 ((k + 1 : Nat) : Int))))], mkM [(64, .arr 5 34 ((stsN ns X (k + 1)).map V.cv))]⟩ := by exact fr
    cases hb : decide (((k + 1 : Nat) : Int) < (ns.length : Int))
    · obtain hkl : k + 1 = ns.length := by simp at hb; omega
      refine CQ.weak (s' := ⟨mkT [(0, .c (.sl 1 (ns.map (GI .u8).g))), (1, .c (.v (.int .u8 n))), (5, .c (.sl 5 ((stsN ns X (k + 1)).map V.cv))), (6, .c (.v (.int .i64 ((k + 1 : Nat) : Int))))], mkM []⟩) ?_ hT ?_
      · (refine wkS ?_ ?_; (all_goals (repeat' (first | exact wkB | refine wkP ?_ ?_ | exact wkMB | refine wkMP rfl ?_ ?_ | exact wkOr rfl | exact wkB0 | refine wkBx ?_ ?_ | refine wkOa ?_ | exact wr rfl | exact wE rfl rfl | exact wNV rfl | exact wLV rfl | exact wMs rfl rfl rfl rfl rfl | exact wCv rfl rfl | exact wCv' rfl rfl | exact wNil rfl rfl | exact wF rfl (LeC.fl _) | apply wV5 rfl | apply wCv rfl | apply wCv' rfl | apply wE rfl | apply wMs rfl rfl rfl rfl | refine wMs rfl rfl ?_ rfl ?_))))
        all_goals first | rfl | (simp [stsN]; done)
      clear hU
      have hU : Fresh [] ⟨mkT [(0, .c (.sl 1 (ns.map (GI .u8).g))), (1, .c (.v (.int .u8 n))), (5, .c (.sl 5 ((stsN ns X (k + 1)).map V.cv))), (6, .c (.v (.int .i64 ((k + 1 : Nat) : Int))))], mkM []⟩ := by exact fr
      have hp := planA_c (stsN ns X (k + 1))
      rw [plan_steps ns hX6 (by omega) (by omega)] at hp
      have hPl : (plN ns X (k + 1)).length = ns.length := by rw [← hkl]; simp [plN]
      have hPg : ∀ i, i < ns.length → (plN ns X (k + 1))[i]? = some (nmS 103 (ns.getD i 0), nmS 109 (ns.getD i 0), agN X i) := fun i hi => by
        unfold plN
        rw [List.getElem?_map, List.getElem?_range (by omega)]; rfl
      generalize plN ns X (k + 1) = P at hp hPl hPg
      have e1 : (((P.length : Nat) : Int) != ((ns.length : Nat) : Int)) = false := by rw [hPl]; simp
      (repeat' (first | refine CQ.seq ?_ | refine CQ.block ?_ | ((first | apply CQ.rT hU | apply CQ.rD hU); (· (repeat (first | exact RunL.nil | (apply RunL.op; (first | ((first | apply sv | (apply gv; (· rfl); (· rfl)) | (apply gvB; (· rfl); (· rfl); (· assumption))); (first | exact .callP rfl rfl ta (hp) | exact (lnG (G := GT) rfl rfl rfl) | exact (lnG (G := GI .u8) rfl rfl rfl) | exact vv)) | exact gn rfl rfl rfl | exact gnU rfl rfl | exact gnB rfl rfl (by assumption) rfl | exact so oo | exact gR rfl rfl oo | exact so rr | exact gR rfl rfl rr | exact gRB rfl rfl (by assumption) oo | exact gRB rfl rfl (by assumption) rr))))); (· kernel_rfl); clear hU; intro hU) | refine CQ.condT rfl ?_ | refine CQ.condF rfl ?_ | refine CQ.condT (hbl ‹_›) ?_ | refine CQ.condF (hbl ‹_›) ?_ | refine CQ.ret ?_ | refine CQ.skip ?_ | refine CQ.exit ?_ | (apply CQ.cond rfl <;> intro hb)))
      refine CQ.loop hT (fun i : Nat => ⟨mkT [(0, .c (.sl 1 (ns.map (GI .u8).g))), (1, .c (.v (.int .u8 n))), (9, .c (.sl 3 (P.map GT.g))), (11, .c (.v (.int .i64 i)))], mkM []⟩) (fun i => i ≤ P.length) (fun i => P.length - i) 0 (Nat.zero_le _) ?_ ?_
      · (refine wkS ?_ ?_; (all_goals (repeat' (first | exact wkB | refine wkP ?_ ?_ | exact wkMB | refine wkMP rfl ?_ ?_ | exact wkOr rfl | exact wkB0 | refine wkBx ?_ ?_ | refine wkOa ?_ | exact wr rfl | exact wE rfl rfl | exact wNV rfl | exact wLV rfl | exact wMs rfl rfl rfl rfl rfl | exact wCv rfl rfl | exact wCv' rfl rfl | exact wNil rfl rfl | exact wF rfl (LeC.fl _) | apply wV5 rfl | apply wCv rfl | apply wCv' rfl | apply wE rfl | apply wMs rfl rfl rfl rfl | refine wMs rfl rfl ?_ rfl ?_))))
      clear hU
      rintro i hi
      have hU : Fresh [] ⟨mkT [(0, .c (.sl 1 (ns.map (GI .u8).g))), (1, .c (.v (.int .u8 n))), (9, .c (.sl 3 (P.map GT.g))), (11, .c (.v (.int .i64 i)))], mkM []⟩ := by exact fr
      cases hb : decide ((i : Int) < (P.length : Int))
      · (repeat' (first | refine CQ.seq ?_ | refine CQ.block ?_ | ((first | apply CQ.rT hU | apply CQ.rD hU); (· (repeat (first | exact RunL.nil | (apply RunL.op; (first | ((first | apply sv | (apply gv; (· rfl); (· rfl)) | (apply gvB; (· rfl); (· rfl); (· assumption))); (first | exact (lnG (G := GT) rfl rfl rfl) | exact vv)) | exact gn rfl rfl rfl | exact gnU rfl rfl | exact gnB rfl rfl (by assumption) rfl | exact so oo | exact gR rfl rfl oo | exact so rr | exact gR rfl rfl rr | exact gRB rfl rfl (by assumption) oo | exact gRB rfl rfl (by assumption) rr))))); (· kernel_rfl); clear hU; intro hU) | refine CQ.condT rfl ?_ | refine CQ.condF rfl ?_ | refine CQ.condT (hbl ‹_›) ?_ | refine CQ.condF (hbl ‹_›) ?_ | refine CQ.ret ?_ | refine CQ.skip ?_ | refine CQ.exit ?_ | (apply CQ.cond rfl <;> intro hb)))
        (repeat' (first | (apply retC; (first | (apply RetA.tmp; (repeat' (first | exact rfl | exact wE rfl rfl | exact wNV rfl | exact wLV rfl | exact wMs rfl rfl rfl rfl rfl | exact wCv rfl rfl | exact wCv' rfl rfl | exact wNil rfl rfl | exact wF rfl (LeC.fl _) | exact wF rfl (LeC.refl _) | apply wV5 rfl | apply wCv rfl | apply wCv' rfl | apply wE rfl | apply wMs rfl rfl rfl rfl | refine wMs rfl rfl ?_ rfl ?_))) | (apply RetA.cellS rfl rfl rfl rfl rfl; (repeat' (first | exact rfl | exact wE rfl rfl | exact wNV rfl | exact wLV rfl | exact wMs rfl rfl rfl rfl rfl | exact wCv rfl rfl | exact wCv' rfl rfl | exact wNil rfl rfl | exact wF rfl (LeC.fl _) | exact wF rfl (LeC.refl _) | apply wV5 rfl | apply wCv rfl | apply wCv' rfl | apply wE rfl | apply wMs rfl rfl rfl rfl | refine wMs rfl rfl ?_ rfl ?_))) | (apply RetA.cellW rfl rfl rfl rfl rfl; (repeat' (first | exact rfl | exact wE rfl rfl | exact wNV rfl | exact wLV rfl | exact wMs rfl rfl rfl rfl rfl | exact wCv rfl rfl | exact wCv' rfl rfl | exact wNil rfl rfl | exact wF rfl (LeC.fl _) | exact wF rfl (LeC.refl _) | apply wV5 rfl | apply wCv rfl | apply wCv' rfl | apply wE rfl | apply wMs rfl rfl rfl rfl | refine wMs rfl rfl ?_ rfl ?_))))) | exact retN))
      have hi' : i < P.length := by simpa using hb
      obtain ⟨a, ha⟩ : ∃ a, a = ns.getD i 0 := ⟨_, rfl⟩
      have hna : ns[i]? = some a := by rw [ha]; simp [List.getD, List.getElem?_eq_getElem (show i < ns.length by omega)]
      have hnb : (ns.map (GI .u8).g)[(i : Int).toNat]? = some ((GI .u8).g a) := gy (G := GI .u8) hna
      have hPi := hPg i (by omega)
      rw [← ha] at hPi
      obtain ⟨ar, har⟩ : ∃ r, r = agN X i := ⟨_, rfl⟩
      have harl : ar.length = X := by rw [har]; simp [agN]
      have harg : ∀ q, q < X → ar[q]? = some (itV i q) := fun q hq => by rw [har]; unfold agN; rw [List.getElem?_map, List.getElem?_range hq]; rfl
      rw [← har] at hPi
      clear har
      have hy := gy (G := GT) hPi
      have n1 : (!((nmS 103 a).toList == (nmS 103 a).toList)) = false := by simp
      have n2 : (!((nmS 109 a).toList == (nmS 109 a).toList)) = false := by simp
      have n3 : (((ar.length : Nat) : Int) != IntKind.i64.wrap ((n : Int).tmod 6)) = false := by rw [hXw, harl]; simp
      (repeat' (first | refine CQ.seq ?_ | refine CQ.block ?_ | ((first | apply CQ.rT hU | apply CQ.rD hU); (· (repeat (first | exact RunL.nil | (apply RunL.op; (first | ((first | apply sv | (apply gv; (· rfl); (· rfl)) | (apply gvB; (· rfl); (· rfl); (· assumption))); (first | exact (lnG (G := GT) rfl rfl rfl) | exact (.idxC rfl rfl (by omega) hnb rfl rfl rfl rfl) | exact (.idxC rfl rfl (by omega) hy rfl rfl rfl rfl) | exact (bsG (G := GI .u8) (vs := [103, a]) (.cons (tE rfl) (.cons (tE rfl) .nil)) rfl rfl rfl rfl rfl rfl rfl rfl) | exact (bsG (G := GI .u8) (vs := [109, a]) (.cons (tE rfl) (.cons (tE rfl) .nil)) rfl rfl rfl rfl rfl rfl rfl rfl) | exact (.convB (bs := [103, a]) rfl rfl rfl rfl rfl rfl rfl) | exact (.convB (bs := [109, a]) rfl rfl rfl rfl rfl rfl rfl) | exact vv)) | exact gn rfl rfl rfl | exact gnU rfl rfl | exact gnB rfl rfl (by assumption) rfl | exact so oo | exact gR rfl rfl oo | exact so rr | exact gR rfl rfl rr | exact gRB rfl rfl (by assumption) oo | exact gRB rfl rfl (by assumption) rr))))); (· kernel_rfl); clear hU; intro hU) | refine CQ.condT rfl ?_ | refine CQ.condF rfl ?_ | refine CQ.condT (hbl ‹_›) ?_ | refine CQ.condF (hbl ‹_›) ?_ | refine CQ.ret ?_ | refine CQ.skip ?_ | refine CQ.exit ?_ | (apply CQ.cond rfl <;> intro hb)))
      refine CQ.loop hT (fun q : Nat => ⟨mkT [(0, .c (.sl 1 (ns.map (GI .u8).g))), (1, .c (.v (.int .u8 n))), (9, .c (.sl 3 (P.map GT.g))), (11, .c (.v (.int .i64 i))), (12, .c (.v (.int .i64 q)))], mkM []⟩) (fun q => q ≤ ar.length) (fun q => ar.length - q) 0 (Nat.zero_le _) ?_ ?_
      · (refine wkS ?_ ?_; (all_goals (repeat' (first | exact wkB | refine wkP ?_ ?_ | exact wkMB | refine wkMP rfl ?_ ?_ | exact wkOr rfl | exact wkB0 | refine wkBx ?_ ?_ | refine wkOa ?_ | exact wr rfl | exact wE rfl rfl | exact wNV rfl | exact wLV rfl | exact wMs rfl rfl rfl rfl rfl | exact wCv rfl rfl | exact wCv' rfl rfl | exact wNil rfl rfl | exact wF rfl (LeC.fl _) | apply wV5 rfl | apply wCv rfl | apply wCv' rfl | apply wE rfl | apply wMs rfl rfl rfl rfl | refine wMs rfl rfl ?_ rfl ?_))))
      clear hU
      rintro q hq
      have hU : Fresh [] ⟨mkT [(0, .c (.sl 1 (ns.map (GI .u8).g))), (1, .c (.v (.int .u8 n))), (9, .c (.sl 3 (P.map GT.g))), (11, .c (.v (.int .i64 i))), (12, .c (.v (.int .i64 q)))], mkM []⟩ := by exact fr
      cases hb2 : decide ((q : Int) < (ar.length : Int))
      · (repeat' (first | refine CQ.seq ?_ | refine CQ.block ?_ | ((first | apply CQ.rT hU | apply CQ.rD hU); (· (repeat (first | exact RunL.nil | (apply RunL.op; (first | ((first | apply sv | (apply gv; (· rfl); (· rfl)) | (apply gvB; (· rfl); (· rfl); (· assumption))); (first | exact (.idxC rfl rfl (by omega) hy rfl rfl rfl rfl) | exact vv)) | exact gn rfl rfl rfl | exact gnU rfl rfl | exact gnB rfl rfl (by assumption) rfl | exact so oo | exact gR rfl rfl oo | exact so rr | exact gR rfl rfl rr | exact gRB rfl rfl (by assumption) oo | exact gRB rfl rfl (by assumption) rr))))); (· kernel_rfl); clear hU; intro hU) | refine CQ.condT rfl ?_ | refine CQ.condF rfl ?_ | refine CQ.condT (hbl ‹_›) ?_ | refine CQ.condF (hbl ‹_›) ?_ | refine CQ.ret ?_ | refine CQ.skip ?_ | refine CQ.exit ?_ | (apply CQ.cond rfl <;> intro hb)))
        refine ⟨i + 1, hi', by omega, ?_⟩
        (refine wkS ?_ ?_; (all_goals (repeat' (first | exact wkB | refine wkP ?_ ?_ | exact wkMB | refine wkMP rfl ?_ ?_ | exact wkOr rfl | exact wkB0 | refine wkBx ?_ ?_ | refine wkOa ?_ | exact wr rfl | exact wE rfl rfl | exact wNV rfl | exact wLV rfl | exact wMs rfl rfl rfl rfl rfl | exact wCv rfl rfl | exact wCv' rfl rfl | exact wNil rfl rfl | exact wF rfl (LeC.fl _) | apply wV5 rfl | apply wCv rfl | apply wCv' rfl | apply wE rfl | apply wMs rfl rfl rfl rfl | refine wMs rfl rfl ?_ rfl ?_))))
        rw [wrapS hi' (Nat.le_trans (show _ ≤ 8 by omega) (by decide))]
      have hq' : q < ar.length := by simpa using hb2
      have hyq := harg q (by omega)
      have n4 : (IntKind.i64.wrap ((i : Int) + (q : Int)) != IntKind.i64.wrap ((i : Int) + (q : Int))) = false := by simp
      (repeat' (first | refine CQ.seq ?_ | refine CQ.block ?_ | ((first | apply CQ.rT hU | apply CQ.rD hU); (· (repeat (first | exact RunL.nil | (apply RunL.op; (first | ((first | apply sv | (apply gv; (· rfl); (· rfl)) | (apply gvB; (· rfl); (· rfl); (· assumption))); (first | exact (.idxC rfl rfl (by omega) hy rfl rfl rfl rfl) | exact (ixV (l := ar) (y := itV i q) rfl rfl (by omega) hyq rfl rfl rfl rfl) | exact vv)) | exact gn rfl rfl rfl | exact gnU rfl rfl | exact gnB rfl rfl (by assumption) rfl | exact so oo | exact gR rfl rfl oo | exact so rr | exact gR rfl rfl rr | exact gRB rfl rfl (by assumption) oo | exact gRB rfl rfl (by assumption) rr))))); (· kernel_rfl); clear hU; intro hU) | refine CQ.condT rfl ?_ | refine CQ.condF rfl ?_ | refine CQ.condT (hbl ‹_›) ?_ | refine CQ.condF (hbl ‹_›) ?_ | refine CQ.ret ?_ | refine CQ.skip ?_ | refine CQ.exit ?_ | (apply CQ.cond rfl <;> intro hb)))
      refine ⟨q + 1, hq', by omega, ?_⟩
      (refine wkS ?_ ?_; (all_goals (repeat' (first | exact wkB | refine wkP ?_ ?_ | exact wkMB | refine wkMP rfl ?_ ?_ | exact wkOr rfl | exact wkB0 | refine wkBx ?_ ?_ | refine wkOa ?_ | exact wr rfl | exact wE rfl rfl | exact wNV rfl | exact wLV rfl | exact wMs rfl rfl rfl rfl rfl | exact wCv rfl rfl | exact wCv' rfl rfl | exact wNil rfl rfl | exact wF rfl (LeC.fl _) | apply wV5 rfl | apply wCv rfl | apply wCv' rfl | apply wE rfl | apply wMs rfl rfl rfl rfl | refine wMs rfl rfl ?_ rfl ?_))))
      rw [wrapS hq' (Nat.le_trans (show _ ≤ 8 by omega) (by decide))]
    · have hb' : k + 1 < ns.length := by simp at hb; omega
      clear hb
      have hb : decide ((((k + 1 : Nat) : Int) : Int) < (ns.length : Int)) = true := by simp; omega
      obtain ⟨a, ha⟩ : ∃ a, a = ns.getD (k + 1) 0 := ⟨_, rfl⟩
      have hna : ns[(k + 1)]? = some a := by rw [ha]; simp [List.getD, List.getElem?_eq_getElem (show (k + 1) < ns.length by omega)]
      have hnb : (ns.map (GI .u8).g)[(((k + 1 : Nat) : Int) : Int).toNat]? = some ((GI .u8).g a) := gy (G := GI .u8) hna
      have hst : stN ns X (k + 1) = V.mk 4 0 0 ⟨#[]⟩ (rowN a (k + 1) X) := by unfold stN; rw [← ha]
      have htg := text_c (nmS 103 a)
      have htm := text_c (nmS 109 a)
      have hlo := listO 43 [textV (nmS 103 a), textV (nmS 109 a)] 2 rfl (by decide)
      (repeat' (first | refine CQ.seq ?_ | refine CQ.block ?_ | ((first | apply CQ.rT hU | apply CQ.rD hU); (· (repeat (first | exact RunL.nil | (apply RunL.op; (first | ((first | apply sv | (apply gv; (· rfl); (· rfl)) | (apply gvB; (· rfl); (· rfl); (· assumption))); (first | exact (lnG (G := GI .u8) rfl rfl rfl) | exact vv)) | exact gn rfl rfl rfl | exact gnU rfl rfl | exact gnB rfl rfl (by assumption) rfl | exact so oo | exact gR rfl rfl oo | exact so rr | exact gR rfl rfl rr | exact gRB rfl rfl (by assumption) oo | exact gRB rfl rfl (by assumption) rr))))); (· kernel_rfl); clear hU; intro hU) | refine CQ.condT rfl ?_ | refine CQ.condF rfl ?_ | refine CQ.condT (hbl ‹_›) ?_ | refine CQ.condF (hbl ‹_›) ?_ | refine CQ.ret ?_ | refine CQ.skip ?_ | refine CQ.exit ?_ | (apply CQ.cond rfl <;> intro hb)))
      first | apply CQ.rT hU | apply CQ.rD hU
      · (iterate 14 ((apply RunL.op; (first | ((first | apply sv | (apply gv; (· rfl); (· rfl)) | (apply gvB; (· rfl); (· rfl); (· assumption))); (first | exact (.idxC rfl rfl (by omega) hnb rfl rfl rfl rfl) | exact (bsG (G := GI .u8) (vs := [103, a]) (.cons (tE rfl) (.cons (tE rfl) .nil)) rfl rfl rfl rfl rfl rfl rfl rfl) | exact (bsG (G := GI .u8) (vs := [109, a]) (.cons (tE rfl) (.cons (tE rfl) .nil)) rfl rfl rfl rfl rfl rfl rfl rfl) | exact (.convB (bs := [103, a]) rfl rfl rfl rfl rfl rfl rfl) | exact (.convB (bs := [109, a]) rfl rfl rfl rfl rfl rfl rfl) | exact .callP rfl rfl ta (htg) | exact .callP rfl rfl ta (htm) | exact vv)) | exact gn rfl rfl rfl | exact gnU rfl rfl | exact gnB rfl rfl (by assumption) rfl | exact so oo | exact gR rfl rfl oo | exact so rr | exact gR rfl rfl rr | exact gRB rfl rfl (by assumption) oo | exact gRB rfl rfl (by assumption) rr))))
        apply RunL.op
        · apply so; exact bsMV (vs := [textV (nmS 103 a), textV (nmS 109 a)]) (.cons (tE rfl) (.cons (tE rfl) .nil)) rfl rfl rfl rfl rfl rfl rfl
        (repeat (first | exact RunL.nil | (apply RunL.op; (first | ((first | apply sv | (apply gv; (· rfl); (· rfl)) | (apply gvB; (· rfl); (· rfl); (· assumption))); (first | exact vv)) | exact gn rfl rfl rfl | exact gnU rfl rfl | exact gnB rfl rfl (by assumption) rfl | exact so ((coP1 rfl hlo rfl tas)) | exact gR rfl rfl ((coP1 rfl hlo rfl tas)) | exact gRB rfl rfl (by assumption) ((coP1 rfl hlo rfl tas)) | exact so oo | exact gR rfl rfl oo | exact so rr | exact gR rfl rfl rr | exact gRB rfl rfl (by assumption) oo | exact gRB rfl rfl (by assumption) rr))))
      · kernel_rfl
      clear hU; intro hU
      (repeat' (first | refine CQ.seq ?_ | refine CQ.block ?_ | ((first | apply CQ.rT hU | apply CQ.rD hU); (· (repeat (first | exact RunL.nil | (apply RunL.op; (first | ((first | apply sv | (apply gv; (· rfl); (· rfl)) | (apply gvB; (· rfl); (· rfl); (· assumption))); (first | exact vv)) | exact gn rfl rfl rfl | exact gnU rfl rfl | exact gnB rfl rfl (by assumption) rfl | exact so oo | exact gR rfl rfl oo | exact so rr | exact gR rfl rfl rr | exact gRB rfl rfl (by assumption) oo | exact gRB rfl rfl (by assumption) rr))))); (· kernel_rfl); clear hU; intro hU) | refine CQ.condT rfl ?_ | refine CQ.condF rfl ?_ | refine CQ.condT (hbl ‹_›) ?_ | refine CQ.condF (hbl ‹_›) ?_ | refine CQ.ret ?_ | refine CQ.skip ?_ | refine CQ.exit ?_ | (apply CQ.cond rfl <;> intro hb)))
      refine CQ.loop hT (fun j : Nat => match j with | 0 => ⟨mkT [(0, .c (.sl 1 (ns.map (GI .u8).g))), (1, .c (.v (.int .u8 n))), (5, .ms 64 (k + 1)), (6, .c (.v (.int .i64 ((k + 1 : Nat) : Int)))), (7, .loc 7 0), (8, .c (.v (.int .i64 0)))], mkM [(64, .arr 5 34 ((stsN ns X (k + 1)).map V.cv)), (43, .arr 5 34 ((rowN a (k + 1) 0).map V.cv)), (7, .box (outB (.ms 43 2)))]⟩ | j + 1 => ⟨mkT [(0, .c (.sl 1 (ns.map (GI .u8).g))), (1, .c (.v (.int .u8 n))), (5, .ms 64 (k + 1)), (6, .c (.v (.int .i64 ((k + 1 : Nat) : Int)))), (7, .loc 7 0), (8, .c (.v (.int .i64 ((j + 1 : Nat) : Int))))], mkM [(64, .arr 5 34 ((stsN ns X (k + 1)).map V.cv)), (59, .arr 5 34 ((rowN a (k + 1) (j + 1)).map V.cv)), (7, .box (outB (.ms 59 (2 + (j + 1)))))]⟩) (fun j => j ≤ X) (fun j => X - j) 0 (Nat.zero_le _) ?_ ?_
      · (refine wkS ?_ ?_; (all_goals (repeat' (first | exact wkB | refine wkP ?_ ?_ | exact wkMB | refine wkMP rfl ?_ ?_ | exact wkOr rfl | exact wkB0 | refine wkBx ?_ ?_ | refine wkOa ?_ | exact wr rfl | exact wE rfl rfl | exact wNV rfl | exact wLV rfl | exact wMs rfl rfl rfl rfl rfl | exact wCv rfl rfl | exact wCv' rfl rfl | exact wNil rfl rfl | exact wF rfl (LeC.fl _) | apply wV5 rfl | apply wCv rfl | apply wCv' rfl | apply wE rfl | apply wMs rfl rfl rfl rfl | refine wMs rfl rfl ?_ rfl ?_))))
      clear hU
      rintro (_ | j) hj
      · have hU : Fresh [64, 43, 7] ⟨mkT [(0, .c (.sl 1 (ns.map (GI .u8).g))), (1, .c (.v (.int .u8 n))), (5, .ms 64 (k + 1)), (6, .c (.v (.int .i64 ((k + 1 : Nat) : Int)))), (7, .loc 7 0), (8, .c (.v (.int .i64 0)))], mkM [(64, .arr 5 34 ((stsN ns X (k + 1)).map V.cv)), (43, .arr 5 34 ((rowN a (k + 1) 0).map V.cv)), (7, .box (outB (.ms 43 2)))]⟩ := by exact fr
        have hrl : ((rowN a (k + 1) 0)).length = 2 := rfl
        cases hb2 : decide ((0 : Int) < IntKind.i64.wrap ((n : Int).tmod 6))
        · obtain rfl : X = 0 := by rw [hXw] at hb2; simp at hb2; omega
          clear hU
          refine CQ.weak (s' := ⟨mkT [(0, .c (.sl 1 (ns.map (GI .u8).g))), (1, .c (.v (.int .u8 n))), (5, .ms 64 (k + 1)), (6, .c (.v (.int .i64 ((k + 1 : Nat) : Int)))), (7, .loc 7 0), (8, .c (.v (.int .i64 0)))], mkM [(64, .arr 5 34 ((stsN ns 0 (k + 1)).map V.cv)), (7, .box (outB (.c (.sl 5 ((rowN a (k + 1) 0).map V.cv)))))]⟩) ?_ hT ?_
          · (refine wkS ?_ ?_; (all_goals (repeat' (first | exact wkB | refine wkP ?_ ?_ | exact wkMB | refine wkMP rfl ?_ ?_ | exact wkOr rfl | exact wkB0 | refine wkBx ?_ ?_ | refine wkOa ?_ | exact wr rfl | exact wE rfl rfl | exact wNV rfl | exact wLV rfl | exact wMs rfl rfl rfl rfl rfl | exact wCv rfl rfl | exact wCv' rfl rfl | exact wNil rfl rfl | exact wF rfl (LeC.fl _) | apply wV5 rfl | apply wCv rfl | apply wCv' rfl | apply wE rfl | apply wMs rfl rfl rfl rfl | refine wMs rfl rfl ?_ rfl ?_))))
            all_goals first | rfl | (simp [rowN]; done) | (simp [rowN]; omega)
          have hU : Fresh [64, 7] ⟨mkT [(0, .c (.sl 1 (ns.map (GI .u8).g))), (1, .c (.v (.int .u8 n))), (5, .ms 64 (k + 1)), (6, .c (.v (.int .i64 ((k + 1 : Nat) : Int)))), (7, .loc 7 0), (8, .c (.v (.int .i64 0)))], mkM [(64, .arr 5 34 ((stsN ns 0 (k + 1)).map V.cv)), (7, .box (outB (.c (.sl 5 ((rowN a (k + 1) 0).map V.cv)))))]⟩ := by exact fr
          have hrp : (stsN ns 0 (k + 1)).length = k + 1 := stsN_len _ _ _
          (repeat' (first | refine CQ.seq ?_ | refine CQ.block ?_ | ((first | apply CQ.rT hU | apply CQ.rD hU); (· (repeat (first | exact RunL.nil | (apply RunL.op; (first | ((first | apply sv | (apply gv; (· rfl); (· rfl)) | (apply gvB; (· rfl); (· rfl); (· assumption))); (first | exact vv)) | exact gn rfl rfl rfl | exact gnU rfl rfl | exact gnB rfl rfl (by assumption) rfl | exact so oo | exact gR rfl rfl oo | exact so rr | exact gR rfl rfl rr | exact gRB rfl rfl (by assumption) oo | exact gRB rfl rfl (by assumption) rr))))); (· kernel_rfl); clear hU; intro hU) | refine CQ.condT rfl ?_ | refine CQ.condF rfl ?_ | refine CQ.condT (hbl ‹_›) ?_ | refine CQ.condF (hbl ‹_›) ?_ | refine CQ.ret ?_ | refine CQ.skip ?_ | refine CQ.exit ?_ | (apply CQ.cond rfl <;> intro hb)))
          refine ⟨k + 2, by omega, by omega, ?_⟩
          (refine wkS ?_ ?_; (all_goals (repeat' (first | exact wkB | refine wkP ?_ ?_ | exact wkMB | refine wkMP rfl ?_ ?_ | exact wkOr rfl | exact wkB0 | refine wkBx ?_ ?_ | refine wkOa ?_ | exact wr rfl | exact wE rfl rfl | exact wNV rfl | exact wLV rfl | exact wMs rfl rfl rfl rfl rfl | exact wCv rfl rfl | exact wCv' rfl rfl | exact wNil rfl rfl | exact wF rfl (LeC.fl _) | apply wV5 rfl | apply wCv rfl | apply wCv' rfl | apply wE rfl | apply wMs rfl rfl rfl rfl | refine wMs rfl rfl ?_ rfl ?_))))
          all_goals first | rfl | (rw [wrap_id (by omega) (by omega)]; rfl) | (refine congrArg (List.map V.cv) ?_; rw [← hst]; exact stsN_succ _ _ _) | (rw [← hst]; exact congrArg (List.map V.cv) (stsN_succ _ _ _)) | (rw [← stsN_succ, hst]; done) | (rw [← stsN_succ, hst]; rfl)
        · have hjX : 0 < X := by rw [hXw] at hb2; simp at hb2; omega
          have hin : Pure env.P 31 [.v (.int .i64 (IntKind.i64.wrap ((((k + 1 : Nat) : Int) : Int) + (0 : Int))))] [(itV (k + 1) 0).cv] := int_c _
          have hl3 : (((rowN a (k + 1) 0) ++ [itV (k + 1) 0]).map V.cv).length = 2 + [itV (k + 1) 0].length := by simp [hrl]
          have hbb : 2 + [itV (k + 1) 0].length ≤ 1000000 := by simp <;> omega
          (repeat' (first | refine CQ.seq ?_ | refine CQ.block ?_ | ((first | apply CQ.rT hU | apply CQ.rD hU); (· (repeat (first | exact RunL.nil | (apply RunL.op; (first | ((first | apply sv | (apply gv; (· rfl); (· rfl)) | (apply gvB; (· rfl); (· rfl); (· assumption))); (first | exact .callP rfl rfl ta (hin) | exact vv)) | exact gn rfl rfl rfl | exact gnU rfl rfl | exact gnB rfl rfl (by assumption) rfl | exact so ((apM (xs := (rowN a (k + 1) 0)) (ys := [itV (k + 1) 0]) rfl rfl hrl rfl rfl rfl rfl rfl rfl hbb (Nat.le_of_ble_eq_true rfl))) | exact gR rfl rfl ((apM (xs := (rowN a (k + 1) 0)) (ys := [itV (k + 1) 0]) rfl rfl hrl rfl rfl rfl rfl rfl rfl hbb (Nat.le_of_ble_eq_true rfl))) | exact gRB rfl rfl (by assumption) ((apM (xs := (rowN a (k + 1) 0)) (ys := [itV (k + 1) 0]) rfl rfl hrl rfl rfl rfl rfl rfl rfl hbb (Nat.le_of_ble_eq_true rfl))) | exact so oo | exact gR rfl rfl oo | exact so rr | exact gR rfl rfl rr | exact gRB rfl rfl (by assumption) oo | exact gRB rfl rfl (by assumption) rr))))); (· kernel_rfl); clear hU; intro hU) | refine CQ.condT rfl ?_ | refine CQ.condF rfl ?_ | refine CQ.condT (hbl ‹_›) ?_ | refine CQ.condF (hbl ‹_›) ?_ | refine CQ.ret ?_ | refine CQ.skip ?_ | refine CQ.exit ?_ | (apply CQ.cond rfl <;> intro hb)))
          refine ⟨1, by omega, by omega, ?_⟩
          (refine wkS ?_ ?_; (all_goals (repeat' (first | exact wkB | refine wkP ?_ ?_ | exact wkMB | refine wkMP rfl ?_ ?_ | exact wkOr rfl | exact wkB0 | refine wkBx ?_ ?_ | refine wkOa ?_ | exact wr rfl | exact wE rfl rfl | exact wNV rfl | exact wLV rfl | exact wMs rfl rfl rfl rfl rfl | exact wCv rfl rfl | exact wCv' rfl rfl | exact wNil rfl rfl | exact wF rfl (LeC.fl _) | apply wV5 rfl | apply wCv rfl | apply wCv' rfl | apply wE rfl | apply wMs rfl rfl rfl rfl | refine wMs rfl rfl ?_ rfl ?_))))
          all_goals first | rfl | (rw [wrap_id (by omega) (by omega)]; rfl) | exact congrArg (List.map V.cv) (rowN_succ a (k + 1) 0)
      · have hU : Fresh [64, 59, 7] ⟨mkT [(0, .c (.sl 1 (ns.map (GI .u8).g))), (1, .c (.v (.int .u8 n))), (5, .ms 64 (k + 1)), (6, .c (.v (.int .i64 ((k + 1 : Nat) : Int)))), (7, .loc 7 0), (8, .c (.v (.int .i64 ((j + 1 : Nat) : Int))))], mkM [(64, .arr 5 34 ((stsN ns X (k + 1)).map V.cv)), (59, .arr 5 34 ((rowN a (k + 1) (j + 1)).map V.cv)), (7, .box (outB (.ms 59 (2 + (j + 1)))))]⟩ := by exact fr
        have hrl : ((rowN a (k + 1) (j + 1))).length = 2 + (j + 1) := rowN_len _ _ _
        cases hb2 : decide ((((j + 1 : Nat) : Int) : Int) < IntKind.i64.wrap ((n : Int).tmod 6))
        · obtain rfl : X = (j + 1) := by rw [hXw] at hb2; simp at hb2; omega
          clear hU
          refine CQ.weak (s' := ⟨mkT [(0, .c (.sl 1 (ns.map (GI .u8).g))), (1, .c (.v (.int .u8 n))), (5, .ms 64 (k + 1)), (6, .c (.v (.int .i64 ((k + 1 : Nat) : Int)))), (7, .loc 7 0), (8, .c (.v (.int .i64 ((j + 1 : Nat) : Int))))], mkM [(64, .arr 5 34 ((stsN ns (j + 1) (k + 1)).map V.cv)), (7, .box (outB (.c (.sl 5 ((rowN a (k + 1) (j + 1)).map V.cv)))))]⟩) ?_ hT ?_
          · (refine wkS ?_ ?_; (all_goals (repeat' (first | exact wkB | refine wkP ?_ ?_ | exact wkMB | refine wkMP rfl ?_ ?_ | exact wkOr rfl | exact wkB0 | refine wkBx ?_ ?_ | refine wkOa ?_ | exact wr rfl | exact wE rfl rfl | exact wNV rfl | exact wLV rfl | exact wMs rfl rfl rfl rfl rfl | exact wCv rfl rfl | exact wCv' rfl rfl | exact wNil rfl rfl | exact wF rfl (LeC.fl _) | apply wV5 rfl | apply wCv rfl | apply wCv' rfl | apply wE rfl | apply wMs rfl rfl rfl rfl | refine wMs rfl rfl ?_ rfl ?_))))
            all_goals first | rfl | (simp [rowN]; done) | (simp [rowN]; omega)
          have hU : Fresh [64, 7] ⟨mkT [(0, .c (.sl 1 (ns.map (GI .u8).g))), (1, .c (.v (.int .u8 n))), (5, .ms 64 (k + 1)), (6, .c (.v (.int .i64 ((k + 1 : Nat) : Int)))), (7, .loc 7 0), (8, .c (.v (.int .i64 ((j + 1 : Nat) : Int))))], mkM [(64, .arr 5 34 ((stsN ns (j + 1) (k + 1)).map V.cv)), (7, .box (outB (.c (.sl 5 ((rowN a (k + 1) (j + 1)).map V.cv)))))]⟩ := by exact fr
          have hrp : (stsN ns (j + 1) (k + 1)).length = k + 1 := stsN_len _ _ _
          (repeat' (first | refine CQ.seq ?_ | refine CQ.block ?_ | ((first | apply CQ.rT hU | apply CQ.rD hU); (· (repeat (first | exact RunL.nil | (apply RunL.op; (first | ((first | apply sv | (apply gv; (· rfl); (· rfl)) | (apply gvB; (· rfl); (· rfl); (· assumption))); (first | exact vv)) | exact gn rfl rfl rfl | exact gnU rfl rfl | exact gnB rfl rfl (by assumption) rfl | exact so oo | exact gR rfl rfl oo | exact so rr | exact gR rfl rfl rr | exact gRB rfl rfl (by assumption) oo | exact gRB rfl rfl (by assumption) rr))))); (· kernel_rfl); clear hU; intro hU) | refine CQ.condT rfl ?_ | refine CQ.condF rfl ?_ | refine CQ.condT (hbl ‹_›) ?_ | refine CQ.condF (hbl ‹_›) ?_ | refine CQ.ret ?_ | refine CQ.skip ?_ | refine CQ.exit ?_ | (apply CQ.cond rfl <;> intro hb)))
          refine ⟨k + 2, by omega, by omega, ?_⟩
          (refine wkS ?_ ?_; (all_goals (repeat' (first | exact wkB | refine wkP ?_ ?_ | exact wkMB | refine wkMP rfl ?_ ?_ | exact wkOr rfl | exact wkB0 | refine wkBx ?_ ?_ | refine wkOa ?_ | exact wr rfl | exact wE rfl rfl | exact wNV rfl | exact wLV rfl | exact wMs rfl rfl rfl rfl rfl | exact wCv rfl rfl | exact wCv' rfl rfl | exact wNil rfl rfl | exact wF rfl (LeC.fl _) | apply wV5 rfl | apply wCv rfl | apply wCv' rfl | apply wE rfl | apply wMs rfl rfl rfl rfl | refine wMs rfl rfl ?_ rfl ?_))))
          all_goals first | rfl | (rw [wrap_id (by omega) (by omega)]; rfl) | (refine congrArg (List.map V.cv) ?_; rw [← hst]; exact stsN_succ _ _ _) | (rw [← hst]; exact congrArg (List.map V.cv) (stsN_succ _ _ _)) | (rw [← stsN_succ, hst]; done) | (rw [← stsN_succ, hst]; rfl)
        · have hjX : (j + 1) < X := by rw [hXw] at hb2; simp at hb2; omega
          have hin : Pure env.P 31 [.v (.int .i64 (IntKind.i64.wrap ((((k + 1 : Nat) : Int) : Int) + (((j + 1 : Nat) : Int) : Int))))] [(itV (k + 1) (j + 1)).cv] := int_c _
          have hl3 : (((rowN a (k + 1) (j + 1)) ++ [itV (k + 1) (j + 1)]).map V.cv).length = 2 + (j + 1) + [itV (k + 1) (j + 1)].length := by simp [hrl]
          have hbb : 2 + (j + 1) + [itV (k + 1) (j + 1)].length ≤ 1000000 := by simp <;> omega
          (repeat' (first | refine CQ.seq ?_ | refine CQ.block ?_ | ((first | apply CQ.rT hU | apply CQ.rD hU); (· (repeat (first | exact RunL.nil | (apply RunL.op; (first | ((first | apply sv | (apply gv; (· rfl); (· rfl)) | (apply gvB; (· rfl); (· rfl); (· assumption))); (first | exact .callP rfl rfl ta (hin) | exact vv)) | exact gn rfl rfl rfl | exact gnU rfl rfl | exact gnB rfl rfl (by assumption) rfl | exact so ((apM (xs := (rowN a (k + 1) (j + 1))) (ys := [itV (k + 1) (j + 1)]) rfl rfl hrl rfl rfl rfl rfl rfl rfl hbb (Nat.le_of_ble_eq_true rfl))) | exact gR rfl rfl ((apM (xs := (rowN a (k + 1) (j + 1))) (ys := [itV (k + 1) (j + 1)]) rfl rfl hrl rfl rfl rfl rfl rfl rfl hbb (Nat.le_of_ble_eq_true rfl))) | exact gRB rfl rfl (by assumption) ((apM (xs := (rowN a (k + 1) (j + 1))) (ys := [itV (k + 1) (j + 1)]) rfl rfl hrl rfl rfl rfl rfl rfl rfl hbb (Nat.le_of_ble_eq_true rfl))) | exact so oo | exact gR rfl rfl oo | exact so rr | exact gR rfl rfl rr | exact gRB rfl rfl (by assumption) oo | exact gRB rfl rfl (by assumption) rr))))); (· kernel_rfl); clear hU; intro hU) | refine CQ.condT rfl ?_ | refine CQ.condF rfl ?_ | refine CQ.condT (hbl ‹_›) ?_ | refine CQ.condF (hbl ‹_›) ?_ | refine CQ.ret ?_ | refine CQ.skip ?_ | refine CQ.exit ?_ | (apply CQ.cond rfl <;> intro hb)))
          refine ⟨j + 2, by omega, by omega, ?_⟩
          (refine wkS ?_ ?_; (all_goals (repeat' (first | exact wkB | refine wkP ?_ ?_ | exact wkMB | refine wkMP rfl ?_ ?_ | exact wkOr rfl | exact wkB0 | refine wkBx ?_ ?_ | refine wkOa ?_ | exact wr rfl | exact wE rfl rfl | exact wNV rfl | exact wLV rfl | exact wMs rfl rfl rfl rfl rfl | exact wCv rfl rfl | exact wCv' rfl rfl | exact wNil rfl rfl | exact wF rfl (LeC.fl _) | apply wV5 rfl | apply wCv rfl | apply wCv' rfl | apply wE rfl | apply wMs rfl rfl rfl rfl | refine wMs rfl rfl ?_ rfl ?_))))
          all_goals first | rfl | (rw [wrap_id (by omega) (by omega)]; rfl) | exact congrArg (List.map V.cv) (rowN_succ a (k + 1) (j + 1))
theorem orchSteps_r (l : List (IntR .u8)) (n : Nat) (hn : n < 256) : Pure env.P 9 [.sl 1 (l.map (GR .u8).g), .v (.int .u8 n)] [.v (.bool true)] := by
  have h := orchSteps_c (l.map (·.1)) n hn
  rw [List.map_map] at h
  exact h
end Go.Proofs.Ytbjcckjhfjhicaa
