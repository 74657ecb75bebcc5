/- Walks: just when a silent node is suspected. -/
import Derived.Test.YtafieicinmcngaaF4
import Derived.Test.YtafieicinmcngaaT
namespace Go.Proofs.Ytafieicinmcngaa
open Go Go.AM
set_option linter.unusedVariables false
set_option maxHeartbeats 4000000
set_option maxRecDepth 100000

theorem mem_whichTo (l : List Int) (b : Bool) (k : Nat) (q : Int) : q ∈ whichTo l b k ↔ ∃ i, i < k ∧ q = (i : Int) ∧ (decide (l.getD i 0 ≥ 12) == b) = true := by
  induction k with
  | zero => simp [whichTo]
  | succ k ih =>
    simp only [whichTo]
    split
    · rename_i h
      rw [List.mem_append, ih]
      constructor
      · rintro (⟨i, h1, h2, h3⟩ | h1)
        · exact ⟨i, by omega, h2, h3⟩
        · exact ⟨k, by omega, by simpa using h1, h⟩
      · rintro ⟨i, h1, h2, h3⟩
        by_cases e : i = k
        · subst e; exact .inr (by simp [h2])
        · exact .inl ⟨i, by omega, h2, h3⟩
    · rename_i h
      rw [ih]
      constructor
      · rintro ⟨i, h1, h2, h3⟩; exact ⟨i, by omega, h2, h3⟩
      · rintro ⟨i, h1, h2, h3⟩
        by_cases e : i = k
        · subst e; exact absurd h3 h
        · exact ⟨i, by omega, h2, h3⟩
theorem which_both (l : List Int) (k : Nat) : (whichTo l true k).length + (whichTo l false k).length = k := by
  induction k with
  | zero => rfl
  | succ k ih =>
    simp only [whichTo]
    cases decide (l.getD k 0 ≥ 12) <;> simp <;> omega

/-- Ages: of this node, of X, of the others. -/
def agesT (K X : Nat) (a b : Int) : List Int := (List.range K).map fun q => if q = 0 then 0 else if q = X then a else b
theorem agesT_len (K X : Nat) (a b : Int) : (agesT K X a b).length = K := by simp [agesT]
theorem agesT_get (K X : Nat) (a b : Int) (q : Nat) : (agesT K X a b)[q]? = if q < K then some (if q = 0 then 0 else if q = X then a else b) else none := by
  simp only [agesT, List.getElem?_map]
  by_cases h : q < K
  · rw [List.getElem?_range h, if_pos h]; rfl
  · rw [if_neg h, List.getElem?_eq_none (by simp; omega)]; rfl
theorem agesT_tick {K X : Nat} {a b : Int} (hX : 1 ≤ X) (ha : 0 ≤ a) (ha2 : a < 1000) (hb : 0 ≤ b) (hb2 : b < 1000) : tickL 0 (agesT K X a b) = agesT K X (a + 1) (b + 1) := by
  apply List.ext_getElem?
  intro q
  unfold tickL tickTo
  rw [List.getElem?_mapIdx, agesT_get, agesT_get, agesT_len]
  by_cases h : q < K
  · rw [if_pos h, if_pos h]
    simp only [Option.map_some]
    congr 1
    by_cases h0 : q = 0
    · subst h0; simp
    · rw [if_neg h0, if_neg h0, if_pos ⟨h, by omega⟩]
      split
      · exact older_succ ha (by omega)
      · exact older_succ hb (by omega)
  · rw [if_neg h, if_neg h]; rfl
theorem agesT_getD {K X : Nat} {a b : Int} (hX : 1 ≤ X) (hXK : X < K) : (agesT K X a b).getD X 0 = a := by
  rw [List.getD, agesT_get, if_pos hXK, if_neg (by omega), if_pos rfl]; rfl
theorem agesT_other {K X : Nat} {a b : Int} (hX : 1 ≤ X) (hXK : X < K) : otherS 0 (agesT K X a b).length X = true := by
  unfold otherS; rw [agesT_len]; simp; omega
theorem agesT_heardS {K X : Nat} {a b : Int} (hX : 1 ≤ X) (hXK : X < K) : heardS 0 (agesT K X a b) X = decide (a ≥ 12) := by
  unfold heardS; rw [agesT_other hX hXK, show ((X : Int)).toNat = X from rfl, agesT_getD hX hXK]; rfl
theorem agesT_heardL {K X : Nat} {a b : Int} (hX : 1 ≤ X) (hXK : X < K) : heardL 0 (agesT K X a b) X = agesT K X 0 b := by
  unfold heardL; rw [agesT_other hX hXK, if_pos rfl, show ((X : Int)).toNat = X from rfl]
  apply List.ext_getElem?
  intro q
  rw [List.getElem?_set, agesT_get, agesT_get, agesT_len]
  by_cases h : X = q
  · subst h; rw [if_pos rfl, if_pos hXK, if_pos hXK, if_neg (by omega), if_pos rfl]
  · rw [if_neg h]
    split
    · congr 1
      split
      · rfl
      · rw [if_neg (by omega), if_neg (by omega)]
    · rfl
def ageT (h i : Nat) : Nat := if i ≤ h then i else i - h - 1
theorem agesT_zero (K X : Nat) : List.replicate K (0 : Int) = agesT K X 0 0 := by
  apply List.ext_getElem?
  intro q
  rw [agesT_get, List.getElem?_replicate]
  split <;> simp
theorem nodesN_small {K : Nat} (h2 : 2 ≤ K) (h7 : K ≤ 7) : nodesN (K : Int) = K ∧ selfN 0 (K : Int) = 0 := by
  have h : nodesN (K : Int) = K := by unfold nodesN; split <;> split <;> omega
  refine ⟨h, ?_⟩
  unfold selfN; rw [h]; simp; omega
abbrev tT (K X : Nat) (T H : Nat) (a k : Nat) : List (Nat × AV) := [(9, .c (.v (.int .i64 K))), (10, .c (.v (.int .i64 X))), (11, .loc 34 0), (12, .c (.v (.int .i64 T))), (13, .c (.v (.int .i64 H))), (14, .c (.v (.int .i64 a))), (15, .c (.v (.int .i64 k)))]
theorem watchTimes_c (n : Nat) (hn : n < 256) (node : Nat) (hnode : node < 256) (ticks : Nat) (hticks : ticks < 256) (heard : Nat) (hheard : heard < 256) :
    Pure env.P 4 [.v (.int .u8 n), .v (.int .u8 node), .v (.int .u8 ticks), .v (.int .u8 heard)] [.v (.bool true)] := by
  refine Pure.go (E := env) Try.func4 rfl rfl rfl (Nat.le_of_ble_eq_true rfl) (Nat.le_of_ble_eq_true rfl) ?_; rintro ⟨w0, T0, L0, n, r0, hn0, hT0⟩ hn hT hU; obtain rfl : n = _ := hn
  have hkn := known_c
  have em : ∀ a b : Nat, ((a : Int)).tmod (b : Int) = ((a % b : Nat) : Int) := fun a b => by rw [Int.tmod_eq_emod_of_nonneg (by omega)]; rfl
  obtain ⟨K, rfl⟩ : ∃ K, K = n % 6 + 2 := ⟨_, rfl⟩
  generalize hKd : n % 6 + 2 = K
  have hK2 : 2 ≤ K ∧ K ≤ 7 := by omega
  have hK : IntKind.i64.wrap (IntKind.i64.wrap (((n : Nat) : Int).tmod 6) + 2) = (K : Int) := by
    rw [show (6 : Int) = ((6 : Nat) : Int) from rfl, em, wrap_id (n := ((n % 6 : Nat) : Int)) (by omega) (by omega), wrap_id (by omega) (by omega)]; omega
  generalize hed : IntKind.i64.wrap (IntKind.i64.wrap (((n : Nat) : Int).tmod 6) + 2) = e at hK
  obtain ⟨hk1, hk2⟩ := nodesN_small hK2.1 hK2.2
  have hnew : Own env.P 6 [.c (.v (.int .i64 0)), .c (.v (.int .i64 e))] [] [.loc 34 0] (wobs 34 1034 0 0 (List.replicate K 0) K) := by
    have := new_c 34 1034 (by decide) 0 e
    rw [hK, hk2, hk1, zeros, hk1] at this
    rw [hK]; exact this
  have hb0 : (IntKind.i64.wrap (e - 1) == 0) = false := by
    rw [hK, wrap_id (by omega) (by omega)]; simp; omega
  generalize hXd : node % (K - 1) + 1 = X
  have hX1 : 1 ≤ X ∧ X < K := by
    have := Nat.mod_lt node (show 0 < K - 1 by omega)
    omega
  have hX : IntKind.i64.wrap ((IntKind.i64.wrap (node : Int)).tmod (IntKind.i64.wrap (e - 1)) + 1) = (X : Int) := by
    rw [hK, wrap_id (n := (node : Int)) (by omega) (by omega), wrap_id (n := (K : Int) - 1) (by omega) (by omega), show (K : Int) - 1 = ((K - 1 : Nat) : Int) by omega, em, wrap_id (by omega) (by omega)]; omega
  generalize hTd : ticks % 40 = T
  have hTT : IntKind.i64.wrap ((ticks : Int).tmod 40) = (T : Int) := by
    rw [show (40 : Int) = ((40 : Nat) : Int) from rfl, em, wrap_id (by omega) (by omega)]; omega
  generalize hHd : heard % 40 = H
  have hH : IntKind.i64.wrap ((heard : Int).tmod 40) = (H : Int) := by
    rw [show (40 : Int) = ((40 : Nat) : Int) from rfl, em, wrap_id (by omega) (by omega)]; omega
  have hT40 : T < 40 := by omega
  subst hed
  (repeat' (first | refine CQ.seq ?_ | refine CQ.block ?_ | ((first | apply CQ.rT hU | apply CQ.rD hU); (· (repeat (first | exact RunL.nil | (apply RunL.op; (first | ((first | apply sv | (apply gv; (· rfl); (· rfl)) | (apply gvB; (· rfl); (· rfl); (· assumption))); (first | exact .callP rfl rfl ta (hkn) | exact (.binR rfl rfl (by assumption)) | exact vv)) | exact gn rfl rfl rfl | exact gnU rfl rfl | exact gnB rfl rfl (by assumption) rfl | exact so ((coN2 rfl hnew rfl rfl rfl tas)) | exact gR rfl rfl ((coN2 rfl hnew rfl rfl rfl tas)) | exact gRB rfl rfl (by assumption) ((coN2 rfl hnew rfl rfl rfl tas)) | exact so oo | exact gR rfl rfl oo | exact so rr | exact gR rfl rfl rr | exact gRB rfl rfl (by assumption) oo | exact gRB rfl rfl (by assumption) rr))))); (· kernel_rfl); clear hU; intro hU) | refine CQ.condT rfl ?_ | refine CQ.condF rfl ?_ | refine CQ.condT (hbl ‹_›) ?_ | refine CQ.condF (hbl ‹_›) ?_ | refine CQ.ret ?_ | refine CQ.skip ?_ | refine CQ.exit ?_ | (apply CQ.cond rfl <;> intro hb)))
  refine CQ.loop hT (fun k : Nat => ⟨mkT (tT K X T H (ageT H k) k), mkM (wobs 34 1034 0 ((k % 3 : Nat) : Int) (agesT K X (ageT H k : Nat) k) K)⟩) (fun k => k ≤ T) (fun k => T - k) 0 (Nat.zero_le _) ?_ ?_
  · (refine wkS ?_ ?_; (all_goals (repeat' (first | exact wkB | refine wkP ?_ ?_ | exact wkMB | refine wkMP rfl ?_ ?_ | exact wkOr rfl | exact wkB0 | refine wkBx ?_ ?_ | refine wkOa ?_ | exact wr rfl | exact wE rfl rfl | exact wNV rfl | exact wLV rfl | exact wMs rfl rfl rfl rfl rfl | exact wCv rfl rfl | exact wCv' rfl rfl | exact wNil rfl rfl | exact wF rfl (LeC.fl _) | apply wV5 rfl | apply wCv rfl | apply wCv' rfl | apply wE rfl | apply wMs rfl rfl rfl rfl | refine wMs rfl rfl ?_ rfl ?_))))
    all_goals first | (rw [hK]; done) | (rw [hX]; done) | (rw [hTT]; done) | (rw [hH]; done) | skip
    rw [agesT_zero K X]; rfl
  clear hU
  rintro k hk
  have hU : Fresh [34, 1034] ⟨mkT (tT K X T H (ageT H k) k), mkM (wobs 34 1034 0 ((k % 3 : Nat) : Int) (agesT K X (ageT H k : Nat) k) K)⟩ := by exact fr
  have hak : ageT H k ≤ k := by unfold ageT; split <;> omega
  have hlen := agesT_len K X (ageT H k : Nat) k
  cases hb : decide ((k : Int) < (T : Int))
  rotate_left
  · have hk' : k < T := by simpa using hb
    obtain ⟨t1, _, _⟩ : tick3 ((k % 3 : Nat) : Int) = (((k + 1) % 3 : Nat) : Int) ∧ True ∧ True := ⟨by rw [tick3_small (by omega) (by omega)]; omega, trivial, trivial⟩
    have hw : IntKind.i64.wrap ((k : Int) + 1) = ((k + 1 : Nat) : Int) := wrap_id (by omega) (by omega)
    have hwa : IntKind.i64.wrap (((ageT H k : Nat) : Int) + 1) = ((ageT H k + 1 : Nat) : Int) := wrap_id (by omega) (by omega)
    have g1 := tick_c 34 1034 (by decide) 0 ((k % 3 : Nat) : Int) (agesT K X (ageT H k : Nat) k) K hlen (by omega)
    rw [t1, agesT_tick hX1.1 (by omega) (by omega) (by omega) (by omega)] at g1
    cases h1 : ((k : Int) == (H : Int))
    · have hne : k ≠ H := by simp at h1; omega
      (repeat' (first | refine CQ.seq ?_ | refine CQ.block ?_ | ((first | apply CQ.rT hU | apply CQ.rD hU); (· (repeat (first | exact RunL.nil | (apply RunL.op; (first | ((first | apply sv | (apply gv; (· rfl); (· rfl)) | (apply gvB; (· rfl); (· rfl); (· assumption))); (first | exact vv)) | exact gn rfl rfl rfl | exact gnU rfl rfl | exact gnB rfl rfl (by assumption) rfl | exact so ((coP2 rfl g1 rfl rfl rfl tas)) | exact gR rfl rfl ((coP2 rfl g1 rfl rfl rfl tas)) | exact gRB rfl rfl (by assumption) ((coP2 rfl g1 rfl rfl rfl tas)) | exact so oo | exact gR rfl rfl oo | exact so rr | exact gR rfl rfl rr | exact gRB rfl rfl (by assumption) oo | exact gRB rfl rfl (by assumption) rr))))); (· kernel_rfl); clear hU; intro hU) | refine CQ.condT rfl ?_ | refine CQ.condF rfl ?_ | refine CQ.condT (hbl ‹_›) ?_ | refine CQ.condF (hbl ‹_›) ?_ | refine CQ.ret ?_ | refine CQ.skip ?_ | refine CQ.exit ?_ | (apply CQ.cond rfl <;> intro hb)))
      refine ⟨k + 1, by omega, by omega, ?_⟩
      have e : ageT H (k + 1) = ageT H k + 1 := by unfold ageT; split <;> split <;> omega
      rw [e]
      (refine wkS ?_ ?_; (all_goals (repeat' (first | exact wkB | refine wkP ?_ ?_ | exact wkMB | refine wkMP rfl ?_ ?_ | exact wkOr rfl | exact wkB0 | refine wkBx ?_ ?_ | refine wkOa ?_ | exact wr rfl | exact wE rfl rfl | exact wNV rfl | exact wLV rfl | exact wMs rfl rfl rfl rfl rfl | exact wCv rfl rfl | exact wCv' rfl rfl | exact wNil rfl rfl | exact wF rfl (LeC.fl _) | apply wV5 rfl | apply wCv rfl | apply wCv' rfl | apply wE rfl | apply wMs rfl rfl rfl rfl | refine wMs rfl rfl ?_ rfl ?_))))
      · rw [hwa]
      · rw [hw]
    · have he : k = H := by simp at h1; omega
      have g2 := heard_c 34 1034 (by decide) 0 (((k + 1) % 3 : Nat) : Int) (agesT K X (((ageT H k : Nat) : Int) + 1) ((k : Int) + 1)) K X (agesT_len _ _ _ _)
      rw [agesT_heardS hX1.1 hX1.2, agesT_heardL hX1.1 hX1.2] at g2
      have e0 : (!(decide (((ageT H k : Nat) : Int) + 1 ≥ 12) == decide (IntKind.i64.wrap (((ageT H k : Nat) : Int) + 1) ≥ 12))) = false := by rw [hwa]; simp
      (repeat' (first | refine CQ.seq ?_ | refine CQ.block ?_ | ((first | apply CQ.rT hU | apply CQ.rD hU); (· (repeat (first | exact RunL.nil | (apply RunL.op; (first | ((first | apply sv | (apply gv; (· rfl); (· rfl)) | (apply gvB; (· rfl); (· rfl); (· assumption))); (first | exact vv)) | exact gn rfl rfl rfl | exact gnU rfl rfl | exact gnB rfl rfl (by assumption) rfl | exact so ((coP2 rfl g1 rfl rfl rfl tas)) | exact gR rfl rfl ((coP2 rfl g1 rfl rfl rfl tas)) | exact gRB rfl rfl (by assumption) ((coP2 rfl g1 rfl rfl rfl tas)) | exact so ((coP2 rfl g2 rfl rfl rfl tas)) | exact gR rfl rfl ((coP2 rfl g2 rfl rfl rfl tas)) | exact gRB rfl rfl (by assumption) ((coP2 rfl g2 rfl rfl rfl tas)) | exact so oo | exact gR rfl rfl oo | exact so rr | exact gR rfl rfl rr | exact gRB rfl rfl (by assumption) oo | exact gRB rfl rfl (by assumption) rr))))); (· kernel_rfl); clear hU; intro hU) | refine CQ.condT rfl ?_ | refine CQ.condF rfl ?_ | refine CQ.condT (hbl ‹_›) ?_ | refine CQ.condF (hbl ‹_›) ?_ | refine CQ.ret ?_ | refine CQ.skip ?_ | refine CQ.exit ?_ | (apply CQ.cond rfl <;> intro hb)))
      refine ⟨k + 1, by omega, by omega, ?_⟩
      have e : ageT H (k + 1) = 0 := by unfold ageT; rw [if_neg (by omega)]; omega
      rw [e]
      (refine wkS ?_ ?_; (all_goals (repeat' (first | exact wkB | refine wkP ?_ ?_ | exact wkMB | refine wkMP rfl ?_ ?_ | exact wkOr rfl | exact wkB0 | refine wkBx ?_ ?_ | refine wkOa ?_ | exact wr rfl | exact wE rfl rfl | exact wNV rfl | exact wLV rfl | exact wMs rfl rfl rfl rfl rfl | exact wCv rfl rfl | exact wCv' rfl rfl | exact wNil rfl rfl | exact wF rfl (LeC.fl _) | apply wV5 rfl | apply wCv rfl | apply wCv' rfl | apply wE rfl | apply wMs rfl rfl rfl rfl | refine wMs rfl rfl ?_ rfl ?_))))
      · rw [hw]
  have hkT : k = T := by simp at hb; omega
  generalize ageT H k = a at hak hlen hU ⊢
  generalize hag : agesT K X (a : Nat) k = ages at hlen hU ⊢
  have hgx : ages[X]? = some (a : Int) := by rw [← hag, agesT_get, if_pos hX1.2, if_neg (by omega), if_pos rfl]
  have hgD : ages.getD X 0 = (a : Int) := by rw [List.getD, hgx]; rfl
  have g1 := age_c 34 1034 (by decide) 0 ((k % 3 : Nat) : Int) ages K X hlen (by omega) (by omega)
  have hao : ageOk 0 K (X : Int) = true := by unfold ageOk otherS; simp; omega
  rw [hao, if_pos rfl, show ((X : Int)).toNat = X from rfl, hgD] at g1
  have g2 := suspects_c 34 1034 (by decide) 0 ((k % 3 : Nat) : Int) ages K hlen (by omega)
  have g3 := alive_c 34 1034 (by decide) 0 ((k % 3 : Nat) : Int) ages K hlen (by omega)
  have hwl := which_both ages ages.length
  have hwx : (whichS ages true).contains (X : Int) = decide ((a : Int) ≥ 12) := by
    rw [Bool.eq_iff_iff, List.contains_iff_mem]
    unfold whichS
    rw [mem_whichTo]
    constructor
    · rintro ⟨i, h1, h2, h3⟩
      have : i = X := by omega
      subst this
      rw [hgD] at h3; simpa using h3
    · intro h
      exact ⟨X, by omega, rfl, by rw [hgD]; simpa using h⟩
  rw [show whichTo ages true ages.length = whichS ages true from rfl, show whichTo ages false ages.length = whichS ages false from rfl, hlen] at hwl
  generalize whichS ages true = S at g2 hwl hwx
  generalize whichS ages false = A at g3 hwl
  (repeat' (first | refine CQ.seq ?_ | refine CQ.block ?_ | ((first | apply CQ.rT hU | apply CQ.rD hU); (· (repeat (first | exact RunL.nil | (apply RunL.op; (first | ((first | apply sv | (apply gv; (· rfl); (· rfl)) | (apply gvB; (· rfl); (· rfl); (· assumption))); (first | exact vv)) | exact gn rfl rfl rfl | exact gnU rfl rfl | exact gnB rfl rfl (by assumption) rfl | exact so ((coP2 rfl g1 rfl rfl rfl tas)) | exact gR rfl rfl ((coP2 rfl g1 rfl rfl rfl tas)) | exact gRB rfl rfl (by assumption) ((coP2 rfl g1 rfl rfl rfl tas)) | exact so ((coP2 rfl g2 rfl rfl rfl tas)) | exact gR rfl rfl ((coP2 rfl g2 rfl rfl rfl tas)) | exact gRB rfl rfl (by assumption) ((coP2 rfl g2 rfl rfl rfl tas)) | exact so oo | exact gR rfl rfl oo | exact so rr | exact gR rfl rfl rr | exact gRB rfl rfl (by assumption) oo | exact gRB rfl rfl (by assumption) rr))))); (· kernel_rfl); clear hU; intro hU) | refine CQ.condT rfl ?_ | refine CQ.condF rfl ?_ | refine CQ.condT (hbl ‹_›) ?_ | refine CQ.condF (hbl ‹_›) ?_ | refine CQ.ret ?_ | refine CQ.skip ?_ | refine CQ.exit ?_ | (apply CQ.cond rfl <;> intro hb)))
  refine CQ.loop hT (fun i : Nat => ⟨mkT ((16, .c (.v (.int .i64 a))) :: (17, .c (.v (.bool true))) :: (18, .c (.sl 1 (S.map (GI .i64).g))) :: (19, .c (.v (.bool ((S.take i).contains (X : Int))))) :: (20, .c (.v (.int .i64 i))) :: tT K X T H a k), mkM (wobs 34 1034 0 ((k % 3 : Nat) : Int) ages K)⟩) (fun i => i ≤ S.length) (fun i => S.length - i) 0 (Nat.zero_le _) ?_ ?_
  · (refine wkS ?_ ?_; (all_goals (repeat' (first | exact wkB | refine wkP ?_ ?_ | exact wkMB | refine wkMP rfl ?_ ?_ | exact wkOr rfl | exact wkB0 | refine wkBx ?_ ?_ | refine wkOa ?_ | exact wr rfl | exact wE rfl rfl | exact wNV rfl | exact wLV rfl | exact wMs rfl rfl rfl rfl rfl | exact wCv rfl rfl | exact wCv' rfl rfl | exact wNil rfl rfl | exact wF rfl (LeC.fl _) | apply wV5 rfl | apply wCv rfl | apply wCv' rfl | apply wE rfl | apply wMs rfl rfl rfl rfl | refine wMs rfl rfl ?_ rfl ?_))))
  clear hU hb
  rintro i hi
  have hU : Fresh [34, 1034] ⟨mkT ((16, .c (.v (.int .i64 a))) :: (17, .c (.v (.bool true))) :: (18, .c (.sl 1 (S.map (GI .i64).g))) :: (19, .c (.v (.bool ((S.take i).contains (X : Int))))) :: (20, .c (.v (.int .i64 i))) :: tT K X T H a k), mkM (wobs 34 1034 0 ((k % 3 : Nat) : Int) ages K)⟩ := by exact fr
  cases hb : decide ((i : Int) < (S.length : Int))
  · have his : i = S.length := by simp at hb; omega
    have e1 : ((S.take i).contains (X : Int)) = decide ((a : Int) ≥ 12) := by rw [his, List.take_length]; exact hwx
    have e2 : ((a : Int) == (a : Int)) = true := by simp
    have e3 : ((S.take i).contains (X : Int) == decide ((a : Int) ≥ 12)) = true := by rw [e1]; simp
    have e4 : (IntKind.i64.wrap ((S.length : Int) + (A.length : Int)) == (K : Int)) = true := by rw [wrap_id (by omega) (by omega)]; simp; omega
    (repeat' (first | refine CQ.seq ?_ | refine CQ.block ?_ | ((first | apply CQ.rT hU | apply CQ.rD hU); (· (repeat (first | exact RunL.nil | (apply RunL.op; (first | ((first | apply sv | (apply gv; (· rfl); (· rfl)) | (apply gvB; (· rfl); (· rfl); (· assumption))); (first | exact (lnG (G := GI .i64) rfl rfl rfl) | exact vv)) | exact gn rfl rfl rfl | exact gnU rfl rfl | exact gnB rfl rfl (by assumption) rfl | exact so ((coP2 rfl g3 rfl rfl rfl tas)) | exact gR rfl rfl ((coP2 rfl g3 rfl rfl rfl tas)) | exact gRB rfl rfl (by assumption) ((coP2 rfl g3 rfl rfl rfl tas)) | exact so oo | exact gR rfl rfl oo | exact so rr | exact gR rfl rfl rr | exact gRB rfl rfl (by assumption) oo | exact gRB rfl rfl (by assumption) rr))))); (· kernel_rfl); clear hU; intro hU) | refine CQ.condT rfl ?_ | refine CQ.condF rfl ?_ | refine CQ.condT (hbl ‹_›) ?_ | refine CQ.condF (hbl ‹_›) ?_ | refine CQ.ret ?_ | refine CQ.skip ?_ | refine CQ.exit ?_ | (apply CQ.cond rfl <;> intro hb)))
    (repeat' (first | (apply retC; (first | (apply RetA.tmp; (repeat' (first | exact rfl | exact wE rfl rfl | exact wNV rfl | exact wLV rfl | exact wMs rfl rfl rfl rfl rfl | exact wCv rfl rfl | exact wCv' rfl rfl | exact wNil rfl rfl | exact wF rfl (LeC.fl _) | exact wF rfl (LeC.refl _) | apply wV5 rfl | apply wCv rfl | apply wCv' rfl | apply wE rfl | apply wMs rfl rfl rfl rfl | refine wMs rfl rfl ?_ rfl ?_))) | (apply RetA.cellS rfl rfl rfl rfl rfl; (repeat' (first | exact rfl | exact wE rfl rfl | exact wNV rfl | exact wLV rfl | exact wMs rfl rfl rfl rfl rfl | exact wCv rfl rfl | exact wCv' rfl rfl | exact wNil rfl rfl | exact wF rfl (LeC.fl _) | exact wF rfl (LeC.refl _) | apply wV5 rfl | apply wCv rfl | apply wCv' rfl | apply wE rfl | apply wMs rfl rfl rfl rfl | refine wMs rfl rfl ?_ rfl ?_))) | (apply RetA.cellW rfl rfl rfl rfl rfl; (repeat' (first | exact rfl | exact wE rfl rfl | exact wNV rfl | exact wLV rfl | exact wMs rfl rfl rfl rfl rfl | exact wCv rfl rfl | exact wCv' rfl rfl | exact wNil rfl rfl | exact wF rfl (LeC.fl _) | exact wF rfl (LeC.refl _) | apply wV5 rfl | apply wCv rfl | apply wCv' rfl | apply wE rfl | apply wMs rfl rfl rfl rfl | refine wMs rfl rfl ?_ rfl ?_))))) | exact retN))
    all_goals rw [e4]
  · have hi' : i < S.length := by simpa using hb
    have hw : IntKind.i64.wrap ((i : Int) + 1) = ((i + 1 : Nat) : Int) := wrap_id (by omega) (by omega)
    have gs := gy (G := GI .i64) (List.getElem?_eq_getElem hi')
    have et : (S.take (i + 1)).contains (X : Int) = ((S.take i).contains (X : Int) || S[i] == (X : Int)) := by
      rw [List.take_succ_eq_append_getElem hi', Bool.eq_iff_iff, List.contains_iff_mem, Bool.or_eq_true, List.contains_iff_mem, List.mem_append, List.mem_singleton, beq_iff_eq]
      exact or_congr Iff.rfl eq_comm
    generalize (S.take i).contains (X : Int) = cc at hU et ⊢
    cases cc
    all_goals (repeat' (first | refine CQ.seq ?_ | refine CQ.block ?_ | ((first | apply CQ.rT hU | apply CQ.rD hU); (· (repeat (first | exact RunL.nil | (apply RunL.op; (first | ((first | apply sv | (apply gv; (· rfl); (· rfl)) | (apply gvB; (· rfl); (· rfl); (· assumption))); (first | exact (lnG (G := GI .i64) rfl rfl rfl) | exact (.idxC rfl rfl (by omega) (by exact gs) rfl rfl rfl rfl) | exact vv)) | exact gn rfl rfl rfl | exact gnU rfl rfl | exact gnB rfl rfl (by assumption) rfl | exact so oo | exact gR rfl rfl oo | exact so rr | exact gR rfl rfl rr | exact gRB rfl rfl (by assumption) oo | exact gRB rfl rfl (by assumption) rr))))); (· kernel_rfl); clear hU; intro hU) | refine CQ.condT rfl ?_ | refine CQ.condF rfl ?_ | refine CQ.condT (hbl ‹_›) ?_ | refine CQ.condF (hbl ‹_›) ?_ | refine CQ.ret ?_ | refine CQ.skip ?_ | refine CQ.exit ?_ | (apply CQ.cond rfl <;> intro hb)))
    all_goals refine ⟨i + 1, by omega, by omega, ?_⟩
    all_goals rw [et]
    · (refine wkS ?_ ?_; (all_goals (repeat' (first | exact wkB | refine wkP ?_ ?_ | exact wkMB | refine wkMP rfl ?_ ?_ | exact wkOr rfl | exact wkB0 | refine wkBx ?_ ?_ | refine wkOa ?_ | exact wr rfl | exact wE rfl rfl | exact wNV rfl | exact wLV rfl | exact wMs rfl rfl rfl rfl rfl | exact wCv rfl rfl | exact wCv' rfl rfl | exact wNil rfl rfl | exact wF rfl (LeC.fl _) | apply wV5 rfl | apply wCv rfl | apply wCv' rfl | apply wE rfl | apply wMs rfl rfl rfl rfl | refine wMs rfl rfl ?_ rfl ?_))))
      · rw [hw]
    · (refine wkS ?_ ?_; (all_goals (repeat' (first | exact wkB | refine wkP ?_ ?_ | exact wkMB | refine wkMP rfl ?_ ?_ | exact wkOr rfl | exact wkB0 | refine wkBx ?_ ?_ | refine wkOa ?_ | exact wr rfl | exact wE rfl rfl | exact wNV rfl | exact wLV rfl | exact wMs rfl rfl rfl rfl rfl | exact wCv rfl rfl | exact wCv' rfl rfl | exact wNil rfl rfl | exact wF rfl (LeC.fl _) | apply wV5 rfl | apply wCv rfl | apply wCv' rfl | apply wE rfl | apply wMs rfl rfl rfl rfl | refine wMs rfl rfl ?_ rfl ?_))))
      · rw [hw]
end Go.Proofs.Ytafieicinmcngaa
