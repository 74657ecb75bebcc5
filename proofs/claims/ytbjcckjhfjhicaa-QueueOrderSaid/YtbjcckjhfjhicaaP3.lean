/- The plain law of values: what is cleaned checks as it did. -/
import Derived.Test.YtbjcckjhfjhicaaP2
namespace Go.Proofs.Ytbjcckjhfjhicaa
open Go Go.AM
set_option linter.unusedVariables false
set_option maxRecDepth 100000
set_option linter.unusedSimpArgs false

theorem clean_cases (v : V) : (v.kind = 1 ∧ cleanS v = .mk 1 v.i 0 ⟨#[]⟩ []) ∨ (v.kind = 2 ∧ cleanS v = .mk 2 0 (bitsF v.f) ⟨#[]⟩ []) ∨ (v.kind = 3 ∧ cleanS v = .mk 3 0 0 v.s []) ∨
    (v.kind = 4 ∧ cleanS v = .mk 4 0 0 ⟨#[]⟩ (v.l.map cleanS)) ∨ ((v.kind ≠ 1 ∧ v.kind ≠ 2 ∧ v.kind ≠ 3 ∧ v.kind ≠ 4) ∧ cleanS v = .mk 0 0 0 ⟨#[]⟩ []) := by
  by_cases h1 : v.kind = 1
  · exact .inl ⟨h1, by rw [cleanS_eq, h1]; rfl⟩
  by_cases h2 : v.kind = 2
  · exact .inr (.inl ⟨h2, by rw [cleanS_eq, h2]; rfl⟩)
  by_cases h3 : v.kind = 3
  · exact .inr (.inr (.inl ⟨h3, by rw [cleanS_eq, h3]; rfl⟩))
  by_cases h4 : v.kind = 4
  · exact .inr (.inr (.inr (.inl ⟨h4, by rw [cleanS_eq, h4]; rfl⟩)))
  · refine .inr (.inr (.inr (.inr ⟨⟨h1, h2, h3, h4⟩, ?_⟩)))
    rw [cleanS_eq, if_neg (by simpa using h1), if_neg (by simpa using h2), if_neg (by simpa using h3), if_neg (by simpa using h4)]
theorem kinds_clean (n : Nat) : ∀ v : V, v.nodes < n → kindsS (cleanS v) = true := by
  induction n with
  | zero => intro v h; omega
  | succ n ih =>
    intro v hn
    rcases clean_cases v with ⟨_, h⟩ | ⟨_, h⟩ | ⟨_, h⟩ | ⟨_, h⟩ | ⟨_, h⟩ <;> rw [h, kindsS_eq]
    · rfl
    · rfl
    · rfl
    · rw [kindssS_eq]
      have : (V.mk 4 0 0 ⟨#[]⟩ (v.l.map cleanS)).l.all kindsS = true := by
        rw [V.l_mk, List.all_eq_true]
        intro x hx
        obtain ⟨y, hy, rfl⟩ := List.mem_map.1 hx
        exact ih y (by have := V.nodes_lt hy; omega)
      rw [this]; rfl
    · rfl
theorem great_clean (n : Nat) : ∀ (v : V) (d : Int), v.nodes < n → greatS (cleanS v) d = greatS v d := by
  induction n with
  | zero => intro v d h; omega
  | succ n ih =>
    intro v d hn
    rcases clean_cases v with ⟨k, h⟩ | ⟨k, h⟩ | ⟨k, h⟩ | ⟨k, h⟩ | ⟨k, h⟩ <;> rw [h, greatS_eq, greatS_eq v]
    · rw [k]; rfl
    · rw [k]; rfl
    · rw [k]; rfl
    · rw [k, greatsS_eq, greatsS_eq]
      have : (V.mk 4 0 0 ⟨#[]⟩ (v.l.map cleanS)).l.any (greatS · (d - 1)) = v.l.any (greatS · (d - 1)) := by
        rw [V.l_mk, List.any_map, Bool.eq_iff_iff, List.any_eq_true, List.any_eq_true]
        constructor
        · rintro ⟨x, hx, hg⟩; exact ⟨x, hx, by rw [← ih x (d - 1) (by have := V.nodes_lt hx; omega)]; exact hg⟩
        · rintro ⟨x, hx, hg⟩; exact ⟨x, hx, by show greatS (cleanS x) (d - 1) = true; rw [ih x (d - 1) (by have := V.nodes_lt hx; omega)]; exact hg⟩
      rw [this, V.l_mk, List.length_map]; rfl
    · have e3 : (v.kind == 3) = false := by simp [k.2.2.1]
      have e4 : (v.kind == 4) = false := by simp [k.2.2.2]
      rw [e3, e4]; rfl
theorem sizes_clean : ∀ (l : List V) (n : Int), (∀ x ∈ l, sizeS (cleanS x) = sizeS x) → sizesS (l.map cleanS) n = sizesS l n
  | [], _, _ => rfl
  | x :: r, n, h => by
    simp only [List.map_cons, sizesS, h x (by simp)]
    exact sizes_clean r _ fun y hy => h y (by simp [hy])
theorem size_clean (n : Nat) : ∀ v : V, v.nodes < n → sizeS (cleanS v) = sizeS v := by
  induction n with
  | zero => intro v h; omega
  | succ n ih =>
    intro v hn
    rcases clean_cases v with ⟨k, h⟩ | ⟨k, h⟩ | ⟨k, h⟩ | ⟨k, h⟩ | ⟨k, h⟩ <;> rw [h, sizeS_eq, sizeS_eq v]
    · rw [k]; rfl
    · rw [k]; rfl
    · rw [k]; rfl
    · rw [k, V.l_mk, sizes_clean v.l 2 fun x hx => ih x (by have := V.nodes_lt hx; omega)]; rfl
    · have e1 : (v.kind == 1) = false := by simp [k.1]
      have e2 : (v.kind == 2) = false := by simp [k.2.1]
      have e3 : (v.kind == 3) = false := by simp [k.2.2.1]
      have e4 : (v.kind == 4) = false := by simp [k.2.2.2]
      rw [e1, e2, e3, e4]; rfl
theorem check_clean {v : V} (h : checkS v = 0) : checkS (cleanS v) = 0 := by
  obtain ⟨_, h2, h3⟩ := check_great h
  unfold checkS
  rw [kinds_clean _ v (Nat.lt_succ_self _), great_clean _ v 8 (Nat.lt_succ_self _), size_clean _ v (Nat.lt_succ_self _), h2]
  simp; omega
end Go.Proofs.Ytbjcckjhfjhicaa
