/- The plain law of values: the same, cleaned, equal. -/
import Derived.Test.YtbjcckjhfjhicaaF13
namespace Go.Proofs.Ytbjcckjhfjhicaa
open Go Go.AM
set_option linter.unusedVariables false
set_option maxRecDepth 100000
set_option linter.unusedSimpArgs false

theorem pairs_refl {p : V → V → Bool} : ∀ {l : List V}, (∀ x ∈ l, p x x = true) → pairs p l l = true
  | [], _ => rfl
  | x :: r, h => by simp only [pairs, h x (by simp), Bool.true_and]; exact pairs_refl fun y hy => h y (by simp [hy])
theorem same_refl (n : Nat) : ∀ v : V, v.nodes < n → sameS v v = true := by
  induction n with
  | zero => intro v h; omega
  | succ n ih =>
    intro v hn
    rw [sameS_eq, pairs_refl fun x hx => ih x (by have := V.nodes_lt hx; omega)]
    simp
theorem sameS_refl (v : V) : sameS v v = true := same_refl _ v (Nat.lt_succ_self _)

/-! floats -/
theorem order_self (d : Ieee.Datum) : d.order d = none ∨ d.order d = some .eq := by
  cases d with
  | nan => exact .inl rfl
  | infinity s => right; simp [Ieee.Datum.order, compare, compareOfLessAndEq]
  | number s m i => right; simp [Ieee.Datum.order, compare, compareOfLessAndEq]
theorem order_nan {x y : Ieee.Datum} (h : y.order y = none) : x.order y = none ∧ y.order x = none := by
  cases y with
  | nan => cases x <;> exact ⟨rfl, rfl⟩
  | infinity s => simp [Ieee.Datum.order] at h
  | number s m i => simp [Ieee.Datum.order] at h
theorem ord_self (b : Nat) : FloatKind.f64.format.order b b = none ∨ FloatKind.f64.format.order b b = some .eq := order_self _
theorem ord_nan {a b : Nat} (h : FloatKind.f64.format.order b b = none) : FloatKind.f64.format.order a b = none ∧ FloatKind.f64.format.order b a = none := order_nan h
def nanB : Nat := 9221120237041090561
theorem nanB_nan : FloatKind.f64.format.order nanB nanB = none := by kernel_rfl
theorem bitsF_nan {b : Nat} (h : FloatKind.f64.format.order b b = none) : bitsF b = nanB := by unfold bitsF; rw [h]; rfl
theorem bitsF_num {b : Nat} (h : FloatKind.f64.format.order b b = some .eq) : bitsF b = b := by unfold bitsF; rw [h]; rfl
theorem bitsF_idem (b : Nat) : bitsF (bitsF b) = bitsF b := by
  rcases ord_self b with h | h
  · rw [bitsF_nan h, bitsF_nan nanB_nan]
  · rw [bitsF_num h, bitsF_num h]
theorem eqF_bits (a b : Nat) : eqF a (bitsF b) = eqF a b := by
  rcases ord_self b with h | h
  · rw [bitsF_nan h]; unfold eqF; rw [(ord_nan (a := a) nanB_nan).1, (ord_nan (a := a) h).1]
  · rw [bitsF_num h]
theorem neF_bits (b : Nat) : neF (bitsF b) (bitsF b) = neF b b := by
  rcases ord_self b with h | h
  · rw [bitsF_nan h]; unfold neF; rw [nanB_nan, h]
  · rw [bitsF_num h]

/-! cleaned -/
theorem clean_idem (n : Nat) : ∀ v : V, v.nodes < n → cleanS (cleanS v) = cleanS v := by
  induction n with
  | zero => intro v h; omega
  | succ n ih =>
    intro v hn
    rw [cleanS_eq v]
    split
    · rw [cleanS_eq]; rfl
    split
    · rw [cleanS_eq]; simp only [V.kind_mk, V.f_mk, bitsF_idem]; rfl
    split
    · rw [cleanS_eq]; rfl
    split
    · rw [cleanS_eq]
      have : (v.l.map cleanS).map cleanS = v.l.map cleanS := by
        rw [List.map_map]; exact List.map_congr_left fun x hx => ih x (by have := V.nodes_lt hx; omega)
      simp only [V.kind_mk, V.l_mk, this]; rfl
    · rw [cleanS_eq]; rfl
theorem cleanS_idem (v : V) : cleanS (cleanS v) = cleanS v := clean_idem _ v (Nat.lt_succ_self _)
theorem kindS_clean (v : V) : kindS (cleanS v) = kindS v := by
  rw [cleanS_eq]
  unfold kindS
  split
  · rename_i h; simp at h; simp [h]
  split
  · rename_i h; simp at h; simp [h]
  split
  · rename_i h; simp at h; simp [h]
  split
  · rename_i h; simp at h; simp [h]
  · rename_i h1 h2 h3 h4
    simp at h1 h2 h3 h4
    have e : (if v.kind < 0 ∨ v.kind > 4 then (0 : Int) else v.kind) = 0 := by
      split
      · rfl
      · omega
    rw [e]; rfl
theorem pairs_map {p : V → V → Bool} {g : V → V} : ∀ {l r : List V}, (∀ x ∈ l, ∀ y ∈ r, p x (g y) = p x y) → pairs p l (r.map g) = pairs p l r
  | [], _, _ => by simp [pairs]
  | _ :: _, [], _ => by simp [pairs]
  | x :: l, y :: r, h => by
    simp only [List.map_cons, pairs, h x (by simp) y (by simp)]
    rw [pairs_map fun a ha b hb => h a (by simp [ha]) b (by simp [hb])]
theorem equal_clean (n : Nat) : ∀ a b : V, a.nodes < n → equalS a (cleanS b) = equalS a b := by
  induction n with
  | zero => intro a b h; omega
  | succ n ih =>
    intro a b hn
    rw [equalS_eq, equalS_eq a b, kindS_clean]
    cases hk : (kindS a != kindS b)
    rotate_left
    · rfl
    simp only [Bool.false_eq_true, if_false]
    have hkk : kindS a = kindS b := by simpa using hk
    have key : ∀ k : Int, 0 < k → k ≤ 4 → (a.kind == k) = true → (b.kind == k) = true := fun k h0 h4 h => by
      rw [← kindS_at h0 h4, ← hkk, kindS_at h0 h4]; exact h
    split
    · rename_i h; rw [cleanS_eq, if_pos (key 1 (by omega) (by omega) h)]; rfl
    split
    · rename_i h
      have hb2 := key 2 (by omega) (by omega) h
      have hb1 : (b.kind == 1) = false := by simp at hb2 ⊢; omega
      rw [cleanS_eq, hb1, hb2]; simp only [Bool.false_eq_true, if_false, if_true, V.f_mk, eqF_bits, neF_bits]
    split
    · rename_i h
      have hb3 := key 3 (by omega) (by omega) h
      have hb1 : (b.kind == 1) = false := by simp at hb3 ⊢; omega
      have hb2 : (b.kind == 2) = false := by simp at hb3 ⊢; omega
      rw [cleanS_eq, hb1, hb2, hb3]; rfl
    split
    · rename_i h
      have hb4 := key 4 (by omega) (by omega) h
      have hb1 : (b.kind == 1) = false := by simp at hb4 ⊢; omega
      have hb2 : (b.kind == 2) = false := by simp at hb4 ⊢; omega
      have hb3 : (b.kind == 3) = false := by simp at hb4 ⊢; omega
      rw [cleanS_eq, hb1, hb2, hb3, hb4]
      simp only [Bool.false_eq_true, if_false, if_true, V.l_mk, List.length_map]
      rw [pairs_map fun x hx y hy => ih x y (by have := V.nodes_lt hx; omega)]
    · rfl
theorem equalS_clean (a b : V) : equalS a (cleanS b) = equalS a b := equal_clean _ a b (Nat.lt_succ_self _)
end Go.Proofs.Ytbjcckjhfjhicaa
