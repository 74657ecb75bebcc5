/- Walks: strange, great and deep values, and what a check says. -/
import Derived.Test.YtcmldokgjbmbdaaF3
namespace Go.Proofs.Ytcmldokgjbmbdaa
open Go Go.AM
set_option linter.unusedVariables false
set_option linter.unusedSimpArgs false
set_option maxHeartbeats 4000000
set_option maxRecDepth 100000

theorem contains_c (l : List V) (f : FuncId) (fs : List CV) (p : V → Bool) (hp : ∀ x ∈ l, Pure env.P f (x.cv :: fs) [.v (.bool (p x))]) :
    Pure env.P 24 [.sl 5 (l.map V.cv), .fn f fs] [.v (.bool (l.any p))] := by
  refine Pure.go (E := env) Try.func24 rfl rfl rfl (Nat.le_of_ble_eq_true rfl) (Nat.le_of_ble_eq_true rfl) ?_; rintro ⟨w0, T0, L0, n, r0, hn0, hT0⟩ hn hT hU; obtain rfl : n = _ := hn
  (repeat' (first | refine CQ.seq ?_ | refine CQ.block ?_ | ((first | apply CQ.rT hU | apply CQ.rD hU); (· (repeat (first | exact RunL.nil | (apply RunL.op; (first | ((first | apply sv | (apply gv; (· rfl); (· rfl)) | (apply gvB; (· rfl); (· rfl); (· assumption))); (first | exact .callP rfl rfl ta ((index_c l f fs p hp)) | exact vv)) | exact gn rfl rfl rfl | exact gnU rfl rfl | exact gnB rfl rfl (by assumption) rfl | exact so oo))))); (· kernel_rfl); clear hU; intro hU) | refine CQ.condT rfl ?_ | refine CQ.condF rfl ?_ | refine CQ.condT (hbl ‹_›) ?_ | refine CQ.condF (hbl ‹_›) ?_ | refine CQ.ret ?_ | refine CQ.skip ?_ | refine CQ.exit ?_ | (apply CQ.cond rfl <;> intro hb)))
  (repeat' (first | (apply retC; (first | (apply RetA.tmp; (repeat' (first | exact rfl | exact wE rfl rfl | exact wNV rfl | exact wLV rfl | exact wMs rfl rfl rfl rfl rfl | exact wCv rfl rfl | exact wCv' rfl rfl | exact wNil rfl rfl | exact wF rfl (LeC.fl _) | exact wF rfl (LeC.refl _) | apply wV5 rfl | apply wCv rfl | apply wCv' rfl | apply wE rfl | apply wMs rfl rfl rfl rfl | refine wMs rfl rfl ?_ rfl ?_))) | (apply RetA.cellS rfl rfl rfl rfl rfl; (repeat' (first | exact rfl | exact wE rfl rfl | exact wNV rfl | exact wLV rfl | exact wMs rfl rfl rfl rfl rfl | exact wCv rfl rfl | exact wCv' rfl rfl | exact wNil rfl rfl | exact wF rfl (LeC.fl _) | exact wF rfl (LeC.refl _) | apply wV5 rfl | apply wCv rfl | apply wCv' rfl | apply wE rfl | apply wMs rfl rfl rfl rfl | refine wMs rfl rfl ?_ rfl ?_))) | (apply RetA.cellW rfl rfl rfl rfl rfl; (repeat' (first | exact rfl | exact wE rfl rfl | exact wNV rfl | exact wLV rfl | exact wMs rfl rfl rfl rfl rfl | exact wCv rfl rfl | exact wCv' rfl rfl | exact wNil rfl rfl | exact wF rfl (LeC.fl _) | exact wF rfl (LeC.refl _) | apply wV5 rfl | apply wCv rfl | apply wCv' rfl | apply wE rfl | apply wMs rfl rfl rfl rfl | refine wMs rfl rfl ?_ rfl ?_))))) | exact retN))
  clear hU
  cases h : l.findIdx? p with
  | none => rw [List.findIdx?_eq_none_iff] at h; rw [List.any_eq_false.2 (by simpa using h)]; rfl
  | some k =>
    obtain ⟨hk, hpk, _⟩ := List.findIdx?_eq_some_iff_getElem.1 h
    rw [List.any_eq_true.2 ⟨_, List.getElem_mem hk, hpk⟩]; simp

theorem kind_of (v : V) : kindS v = v.kind ↔ ¬ (v.kind < 0 ∨ v.kind > 4) := by
  unfold kindS; split <;> simp_all <;> omega
theorem strange_n (n : Nat) : ∀ v : V, v.nodes < n → Pure env.P 47 [v.cv] [.v (.bool !(kindsS v))] := by
  induction n with
  | zero => intro v h; omega
  | succ n ih =>
  intro v hn
  refine Pure.fact 0 rfl ⟨_, Try.func47, rfl, rfl⟩ (fun _ _ _ h => cv_len h) ?_; intro hlen; refine Pure.go (E := env) Try.func47 rfl rfl rfl (Nat.le_of_ble_eq_true rfl) (Nat.le_of_ble_eq_true rfl) ?_; rintro ⟨w0, T0, L0, n, r0, hn0, hT0⟩ hn hT hU; obtain rfl : n = _ := hn
  have hc := contains_c v.l 47 [] (fun x => !kindsS x) fun x hx => ih x (by have := V.nodes_lt hx; omega)
  have hk := kind_c v
  cases h1 : (v.kind != kindS v) <;> cases h4 : (v.kind == 4)
  all_goals (repeat' (first | refine CQ.seq ?_ | refine CQ.block ?_ | ((first | apply CQ.rT hU | apply CQ.rD hU); (· (repeat (first | exact RunL.nil | (apply RunL.op; (first | ((first | apply sv | (apply gv; (· rfl); (· rfl)) | (apply gvB; (· rfl); (· rfl); (· assumption))); (first | exact .callP rfl rfl ta (hc) | exact .callP rfl rfl ta (hk) | exact vv)) | exact gn rfl rfl rfl | exact gnU rfl rfl | exact gnB rfl rfl (by assumption) rfl | exact so oo))))); (· kernel_rfl); clear hU; intro hU) | refine CQ.condT rfl ?_ | refine CQ.condF rfl ?_ | refine CQ.condT (hbl ‹_›) ?_ | refine CQ.condF (hbl ‹_›) ?_ | refine CQ.ret ?_ | refine CQ.skip ?_ | refine CQ.exit ?_ | (apply CQ.cond rfl <;> intro hb)))
  all_goals (repeat' (first | (apply retC; (first | (apply RetA.tmp; (repeat' (first | exact rfl | exact wE rfl rfl | exact wNV rfl | exact wLV rfl | exact wMs rfl rfl rfl rfl rfl | exact wCv rfl rfl | exact wCv' rfl rfl | exact wNil rfl rfl | exact wF rfl (LeC.fl _) | exact wF rfl (LeC.refl _) | apply wV5 rfl | apply wCv rfl | apply wCv' rfl | apply wE rfl | apply wMs rfl rfl rfl rfl | refine wMs rfl rfl ?_ rfl ?_))) | (apply RetA.cellS rfl rfl rfl rfl rfl; (repeat' (first | exact rfl | exact wE rfl rfl | exact wNV rfl | exact wLV rfl | exact wMs rfl rfl rfl rfl rfl | exact wCv rfl rfl | exact wCv' rfl rfl | exact wNil rfl rfl | exact wF rfl (LeC.fl _) | exact wF rfl (LeC.refl _) | apply wV5 rfl | apply wCv rfl | apply wCv' rfl | apply wE rfl | apply wMs rfl rfl rfl rfl | refine wMs rfl rfl ?_ rfl ?_))) | (apply RetA.cellW rfl rfl rfl rfl rfl; (repeat' (first | exact rfl | exact wE rfl rfl | exact wNV rfl | exact wLV rfl | exact wMs rfl rfl rfl rfl rfl | exact wCv rfl rfl | exact wCv' rfl rfl | exact wNil rfl rfl | exact wF rfl (LeC.fl _) | exact wF rfl (LeC.refl _) | apply wV5 rfl | apply wCv rfl | apply wCv' rfl | apply wE rfl | apply wMs rfl rfl rfl rfl | refine wMs rfl rfl ?_ rfl ?_))))) | exact retN))
  all_goals clear hU
  all_goals rw [kindsS_eq, kindssS_eq]
  all_goals simp only [bne, Bool.not_eq_true', Bool.not_eq_false', beq_iff_eq, beq_eq_false_iff_ne] at h1
  · have := (kind_of v).1 h1.symm
    rw [if_neg (by simp; omega), h4]; rfl
  · have := (kind_of v).1 h1.symm
    rw [if_neg (by simp; omega), h4, if_pos rfl, List.any_eq_not_all_not]; simp
  · have : (v.kind < 0 ∨ v.kind > 4) := Classical.byContradiction fun h => h1 ((kind_of v).2 h).symm
    rw [if_pos (by simpa using this)]; rfl
  · have : (v.kind < 0 ∨ v.kind > 4) := Classical.byContradiction fun h => h1 ((kind_of v).2 h).symm
    rw [if_pos (by simpa using this)]; rfl
theorem strange_c (v : V) : Pure env.P 47 [v.cv] [.v (.bool !(kindsS v))] := strange_n _ v (Nat.lt_succ_self _)

mutual
def greatS : V → Int → Bool
  | .mk k i f s l, d => if k == 3 then decide ((s.size : Int) > 256) else if k == 4 then decide ((l.length : Int) > 64) || decide (d < 1) || greatsS l (d - 1) else false
def greatsS : List V → Int → Bool
  | [], _ => false
  | x :: r, d => greatS x d || greatsS r d
end
theorem greatS_eq (v : V) (d : Int) : greatS v d = if v.kind == 3 then decide ((v.s.size : Int) > 256) else if v.kind == 4 then decide ((v.l.length : Int) > 64) || decide (d < 1) || greatsS v.l (d - 1) else false := by
  cases v; unfold greatS; rfl
theorem greatsS_eq (l : List V) (d : Int) : greatsS l d = l.any (greatS · d) := by
  induction l with
  | nil => rfl
  | cons x r ih => simp [greatsS, ih]

theorem great_n (n : Nat) : ∀ (v : V) (d : Int), 0 ≤ d → d ≤ 8 → v.nodes < n → Pure env.P 48 [v.cv, .v (.int .i64 d)] [.v (.bool (greatS v d))] := by
  induction n with
  | zero => intro v d h0 h8 h; omega
  | succ n ih =>
  intro v d h0 h8 hn
  refine Pure.fact 0 rfl ⟨_, Try.func48, rfl, rfl⟩ (fun _ _ _ h => cv_len h) ?_; intro hlen; refine Pure.go (E := env) Try.func48 rfl rfl rfl (Nat.le_of_ble_eq_true rfl) (Nat.le_of_ble_eq_true rfl) ?_; rintro ⟨w0, T0, L0, n, r0, hn0, hT0⟩ hn hT hU; obtain rfl : n = _ := hn
  cases h1 : (v.kind == 3) <;> cases h4 : (v.kind == 4) <;> cases h64 : decide ((v.l.length : Int) > 64) <;> cases hd : decide (d < 1)
  all_goals try (exfalso; simp at h1 h4; omega)
  all_goals try (have hc := contains_c v.l 55 [.ad [.v (.int .i64 d)]] (fun x => greatS x (d - 1)) fun x hx => (by
    have hx' := ih x (d - 1) (by simp at hd; omega) (by omega) (by have := V.nodes_lt hx; omega)
    rw [← wrap_id (n := d - 1) (by omega) (by omega)] at hx'
    rw [← wrap_id (n := d - 1) (by omega) (by omega)]
    refine Pure.go (E := env) Try.func55 rfl rfl rfl (Nat.le_of_ble_eq_true rfl) (Nat.le_of_ble_eq_true rfl) ?_; rintro ⟨w0, T0, L0, n, r0, hn0, hT0⟩ hn hT hU; obtain rfl : n = _ := hn
    (repeat' (first | refine CQ.seq ?_ | refine CQ.block ?_ | ((first | apply CQ.rT hU | apply CQ.rD hU); (· (repeat (first | exact RunL.nil | (apply RunL.op; (first | ((first | apply sv | (apply gv; (· rfl); (· rfl)) | (apply gvB; (· rfl); (· rfl); (· assumption))); (first | exact .callP rfl rfl ta (hx') | exact vv)) | exact gn rfl rfl rfl | exact gnU rfl rfl | exact gnB rfl rfl (by assumption) rfl | exact so oo))))); (· kernel_rfl); clear hU; intro hU) | refine CQ.condT rfl ?_ | refine CQ.condF rfl ?_ | refine CQ.condT (hbl ‹_›) ?_ | refine CQ.condF (hbl ‹_›) ?_ | refine CQ.ret ?_ | refine CQ.skip ?_ | refine CQ.exit ?_ | (apply CQ.cond rfl <;> intro hb)))
    (repeat' (first | (apply retC; (first | (apply RetA.tmp; (repeat' (first | exact rfl | exact wE rfl rfl | exact wNV rfl | exact wLV rfl | exact wMs rfl rfl rfl rfl rfl | exact wCv rfl rfl | exact wCv' rfl rfl | exact wNil rfl rfl | exact wF rfl (LeC.fl _) | exact wF rfl (LeC.refl _) | apply wV5 rfl | apply wCv rfl | apply wCv' rfl | apply wE rfl | apply wMs rfl rfl rfl rfl | refine wMs rfl rfl ?_ rfl ?_))) | (apply RetA.cellS rfl rfl rfl rfl rfl; (repeat' (first | exact rfl | exact wE rfl rfl | exact wNV rfl | exact wLV rfl | exact wMs rfl rfl rfl rfl rfl | exact wCv rfl rfl | exact wCv' rfl rfl | exact wNil rfl rfl | exact wF rfl (LeC.fl _) | exact wF rfl (LeC.refl _) | apply wV5 rfl | apply wCv rfl | apply wCv' rfl | apply wE rfl | apply wMs rfl rfl rfl rfl | refine wMs rfl rfl ?_ rfl ?_))) | (apply RetA.cellW rfl rfl rfl rfl rfl; (repeat' (first | exact rfl | exact wE rfl rfl | exact wNV rfl | exact wLV rfl | exact wMs rfl rfl rfl rfl rfl | exact wCv rfl rfl | exact wCv' rfl rfl | exact wNil rfl rfl | exact wF rfl (LeC.fl _) | exact wF rfl (LeC.refl _) | apply wV5 rfl | apply wCv rfl | apply wCv' rfl | apply wE rfl | apply wMs rfl rfl rfl rfl | refine wMs rfl rfl ?_ rfl ?_))))) | exact retN))))
  all_goals first | (repeat' (first | refine CQ.seq ?_ | refine CQ.block ?_ | ((first | apply CQ.rT hU | apply CQ.rD hU); (· (repeat (first | exact RunL.nil | (apply RunL.op; (first | ((first | apply sv | (apply gv; (· rfl); (· rfl)) | (apply gvB; (· rfl); (· rfl); (· assumption))); (first | exact .callP rfl rfl ta (hc) | exact (.boxC (tE rfl) rfl (Nat.le_of_ble_eq_true rfl)) | ((apply StepV.mkfunC; (repeat (first | exact ToCs.nil | (apply ToCs.cons; (first | exact tE rfl | exact tCv rfl | exact tNV rfl | exact tNil rfl rfl | exact tFn0 rfl | exact tF rfl (LeC.fl _) | exact tF rfl (LeC.refl _) | (refine tV5 rfl ?_ ?_ <;> first | exact LeC.fl _ | exact LeC.refl _ | exact LeC.nv | exact LeC.nil _ (by decide)))))))) | exact vv)) | exact gn rfl rfl rfl | exact gnU rfl rfl | exact gnB rfl rfl (by assumption) rfl | exact so oo))))); (· kernel_rfl); clear hU; intro hU) | refine CQ.condT rfl ?_ | refine CQ.condF rfl ?_ | refine CQ.condT (hbl ‹_›) ?_ | refine CQ.condF (hbl ‹_›) ?_ | refine CQ.ret ?_ | refine CQ.skip ?_ | refine CQ.exit ?_ | (apply CQ.cond rfl <;> intro hb))) | skip
  all_goals (repeat' (first | (apply retC; (first | (apply RetA.tmp; (repeat' (first | exact rfl | exact wE rfl rfl | exact wNV rfl | exact wLV rfl | exact wMs rfl rfl rfl rfl rfl | exact wCv rfl rfl | exact wCv' rfl rfl | exact wNil rfl rfl | exact wF rfl (LeC.fl _) | exact wF rfl (LeC.refl _) | apply wV5 rfl | apply wCv rfl | apply wCv' rfl | apply wE rfl | apply wMs rfl rfl rfl rfl | refine wMs rfl rfl ?_ rfl ?_))) | (apply RetA.cellS rfl rfl rfl rfl rfl; (repeat' (first | exact rfl | exact wE rfl rfl | exact wNV rfl | exact wLV rfl | exact wMs rfl rfl rfl rfl rfl | exact wCv rfl rfl | exact wCv' rfl rfl | exact wNil rfl rfl | exact wF rfl (LeC.fl _) | exact wF rfl (LeC.refl _) | apply wV5 rfl | apply wCv rfl | apply wCv' rfl | apply wE rfl | apply wMs rfl rfl rfl rfl | refine wMs rfl rfl ?_ rfl ?_))) | (apply RetA.cellW rfl rfl rfl rfl rfl; (repeat' (first | exact rfl | exact wE rfl rfl | exact wNV rfl | exact wLV rfl | exact wMs rfl rfl rfl rfl rfl | exact wCv rfl rfl | exact wCv' rfl rfl | exact wNil rfl rfl | exact wF rfl (LeC.fl _) | exact wF rfl (LeC.refl _) | apply wV5 rfl | apply wCv rfl | apply wCv' rfl | apply wE rfl | apply wMs rfl rfl rfl rfl | refine wMs rfl rfl ?_ rfl ?_))))) | exact retN))
  all_goals clear hU
  all_goals rw [greatS_eq, greatsS_eq, h1, h4, h64, hd]
  all_goals simp
theorem great_c (v : V) (d : Int) (h0 : 0 ≤ d) (h8 : d ≤ 8) : Pure env.P 48 [v.cv, .v (.int .i64 d)] [.v (.bool (greatS v d))] := great_n _ v d h0 h8 (Nat.lt_succ_self _)
end Go.Proofs.Ytcmldokgjbmbdaa
