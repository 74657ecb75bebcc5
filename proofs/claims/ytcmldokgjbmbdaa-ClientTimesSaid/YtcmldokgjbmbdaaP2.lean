/- The plain law of values: what checks is small; what is cleaned is clean. -/
import Derived.Test.YtcmldokgjbmbdaaF8
namespace Go.Proofs.Ytcmldokgjbmbdaa
open Go Go.AM
set_option linter.unusedVariables false
set_option maxRecDepth 100000
set_option linter.unusedSimpArgs false

def intV' (n : Int) : V := .mk 1 n 0 ⟨#[]⟩ []
theorem great_small (n : Nat) : ∀ (v : V) (d : Int), v.nodes < n → greatS v d = false → smallS v = true := by
  induction n with
  | zero => intro v d h; omega
  | succ n ih =>
    intro v d hn h
    rw [smallS_eq]
    cases h4 : (v.kind == 4)
    · rfl
    have h3 : (v.kind == 3) = false := by simp at h4 ⊢; omega
    rw [greatS_eq, h3, h4, greatsS_eq] at h
    simp only [Bool.false_eq_true, if_false, if_true, Bool.or_eq_false_iff, decide_eq_false_iff_not] at h
    rw [if_pos rfl, Bool.and_eq_true, decide_eq_true_eq, smallsS_eq, List.all_eq_true]
    refine ⟨by omega, fun x hx => ih x (d - 1) (by have := V.nodes_lt hx; omega) ?_⟩
    have := List.any_eq_false.1 h.2 x hx
    simpa using this
theorem check_great {v : V} (h : checkS v = 0) : kindsS v = true ∧ greatS v 8 = false ∧ sizeS v ≤ 4096 := by
  unfold checkS at h
  split at h
  · cases h
  · rename_i h1
    split at h
    · cases h
    · rename_i h2; simp at h1 h2; exact ⟨h1, h2.1, by omega⟩
theorem check_small {v : V} (h : checkS v = 0) : smallS v = true := great_small _ v 8 (Nat.lt_succ_self _) (check_great h).2.1
theorem clean_small (n : Nat) : ∀ v : V, v.nodes < n → smallS v = true → smallS (cleanS v) = true := by
  induction n with
  | zero => intro v h; omega
  | succ n ih =>
    intro v hn h
    rw [cleanS_eq]
    repeat' split
    all_goals try rfl
    rename_i h4
    rw [smallS_eq, h4, if_pos rfl, Bool.and_eq_true, decide_eq_true_eq, smallsS_eq, List.all_eq_true] at h
    rw [smallS_eq]
    rw [if_pos (by rfl), Bool.and_eq_true]
    refine ⟨decide_eq_true (by simpa using h.1), ?_⟩
    rw [smallsS_eq, List.all_eq_true]
    intro x hx
    simp only [V.l_mk] at hx
    obtain ⟨y, hy, rfl⟩ := List.mem_map.1 hx
    exact ih y (by have := V.nodes_lt hy; omega) (h.2 y hy)
theorem cleanS_small {v : V} (h : smallS v = true) : smallS (cleanS v) = true := clean_small _ v (Nat.lt_succ_self _) h

theorem pairs_refl {p : V → V → Bool} : ∀ {l : List V}, (∀ x ∈ l, p x x = true) → pairs p l l = true
  | [], _ => rfl
  | x :: r, h => by simp only [pairs, h x (by simp), Bool.true_and]; exact pairs_refl fun y hy => h y (by simp [hy])
theorem same_refl (n : Nat) : ∀ v : V, v.nodes < n → sameS v v = true := by
  induction n with
  | zero => intro v h; omega
  | succ n ih =>
    intro v hn
    rw [sameS_eq, pairs_refl fun x hx => ih x (by have := V.nodes_lt hx; omega)]
    simp
theorem sameS_refl (v : V) : sameS v v = true := same_refl _ v (Nat.lt_succ_self _)

/-! floats -/
theorem order_self (d : Ieee.Datum) : d.order d = none ∨ d.order d = some .eq := by
  cases d with
  | nan => exact .inl rfl
  | infinity s => right; simp [Ieee.Datum.order, compare, compareOfLessAndEq]
  | number s m i => right; simp [Ieee.Datum.order, compare, compareOfLessAndEq]
theorem order_nan {x y : Ieee.Datum} (h : y.order y = none) : x.order y = none ∧ y.order x = none := by
  cases y with
  | nan => cases x <;> exact ⟨rfl, rfl⟩
  | infinity s => simp [Ieee.Datum.order] at h
  | number s m i => simp [Ieee.Datum.order] at h
theorem ord_self (b : Nat) : FloatKind.f64.format.order b b = none ∨ FloatKind.f64.format.order b b = some .eq := order_self _
theorem ord_nan {a b : Nat} (h : FloatKind.f64.format.order b b = none) : FloatKind.f64.format.order a b = none ∧ FloatKind.f64.format.order b a = none := order_nan h
def nanB : Nat := 9221120237041090561
theorem nanB_nan : FloatKind.f64.format.order nanB nanB = none := by kernel_rfl
theorem bitsF_nan {b : Nat} (h : FloatKind.f64.format.order b b = none) : bitsF b = nanB := by unfold bitsF; rw [h]; rfl
theorem bitsF_num {b : Nat} (h : FloatKind.f64.format.order b b = some .eq) : bitsF b = b := by unfold bitsF; rw [h]; rfl
theorem bitsF_idem (b : Nat) : bitsF (bitsF b) = bitsF b := by
  rcases ord_self b with h | h
  · rw [bitsF_nan h, bitsF_nan nanB_nan]
  · rw [bitsF_num h, bitsF_num h]
theorem clean_idem (n : Nat) : ∀ v : V, v.nodes < n → cleanS (cleanS v) = cleanS v := by
  induction n with
  | zero => intro v h; omega
  | succ n ih =>
    intro v hn
    rw [cleanS_eq v]
    split
    · rw [cleanS_eq]; rfl
    split
    · rw [cleanS_eq]; simp only [V.kind_mk, V.f_mk, bitsF_idem]; rfl
    split
    · rw [cleanS_eq]; rfl
    split
    · rw [cleanS_eq]
      have : (v.l.map cleanS).map cleanS = v.l.map cleanS := by
        rw [List.map_map]; exact List.map_congr_left fun x hx => ih x (by have := V.nodes_lt hx; omega)
      simp only [V.kind_mk, V.l_mk, this]; rfl
    · rw [cleanS_eq]; rfl
theorem cleanS_idem (v : V) : cleanS (cleanS v) = cleanS v := clean_idem _ v (Nat.lt_succ_self _)
end Go.Proofs.Ytcmldokgjbmbdaa
