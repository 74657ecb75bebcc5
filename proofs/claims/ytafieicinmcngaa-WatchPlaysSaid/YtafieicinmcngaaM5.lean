/- The abstract machine, part 5: growing a slice of the call's own; what objects' cells hold. It speaks of whatever program. -/
import Derived.Test.YtafieicinmcngaaM4
namespace Go.AM
open Go Go.RowKit
set_option linter.unusedVariables false

section
variable {C : Ctx} {s : AS} {ρ : Nat → Value} {a : Act} {w : World}

theorem blk_own {u : Value} {n : Nat} {w : World} {e sz : Nat} {vs : List Value} (h : w.ownsRow 0 e sz u n vs) : Value.blk u = u.ownBlock := by
  rcases h.2 with ⟨rfl, _⟩ | ⟨g, cap, cur, rfl, _⟩ <;> rfl

/-- A slice of the call's own is made, or has grown: what led to it (src) is forgotten. -/
theorem STr.grow (h : STr C s ρ a w) (src : Option Nat) (d sz e : Nat) (hd : d < 1000000) (xs' : List CV) (u v' : Value) (vs' : List Value) {w' : World} (h0 : 0 < sz)
    (hsrc : match src with
      | some i => ∃ xs, s.m i = some (.arr sz e xs) ∧ u = ρ i ∧ (i = d → xs.length < xs'.length)
      | none => u = .slice none 0 0)
    (hfresh : src ≠ some d → (∀ j, NoId d (s.t j)) ∧ ∀ i o, s.m i = some o → o.noId d)
    (hown' : w'.ownsRow 0 e sz v' xs'.length vs') (hg : w.grownBy w' u.ownBlock) (hat : v'.ownBlock = u.ownBlock ∨ v'.ownBlock = none ∨ v'.ownBlock = some w.heap.size)
    (hx : ∀ L', (∀ b, ¬ LL C s.m ρ b → b < w.heap.size → ¬ L' b) → ∀ i x, xs'[i]? = some x → x.cells.length = sz ∧ ∀ j y, x.cells[j]? = some y → Rep w' L' (vs'.getD (i * sz + j) undef) y) :
    STr C ⟨s.t, updM (match src with | some i => updM s.m i none | none => s.m) d (some (.arr sz e xs'))⟩ (updV ρ d v') a w' := by
  have hsm : ∀ k, k ≠ d → ∀ o, (match src with | some i => updM s.m i none | none => s.m) k = some o → s.m k = some o ∧ src ≠ some k := by
    intro k hk o ho
    cases src with
    | none => exact ⟨ho, by simp⟩
    | some i =>
      by_cases e : k = i
      · subst e; simp only [updM_same] at ho; cases ho
      · simp only [updM_ne _ _ e] at ho; exact ⟨ho, by simpa using fun e' => e e'.symm⟩
  have hub : ∀ b, u.ownBlock = some b → live s.m ρ b ∧ ∃ i, src = some i ∧ Value.blk (ρ i) = some b := by
    intro b hb
    cases src with
    | none => simp only at hsrc; subst hsrc; cases hb
    | some i =>
      obtain ⟨xs, hi, rfl, _⟩ := hsrc
      have hh := (h.obj i _ hi).2
      obtain ⟨vs, hown, _⟩ := hh
      rw [← blk_own hown] at hb
      exact ⟨⟨i, _, hi, hb⟩, i, rfl, hb⟩
  have hv : ∀ b, Value.blk v' = some b → (u.ownBlock = some b ∨ b = w.heap.size) ∧ b < w'.heap.size := by
    intro b hb
    have hlt : ∀ k, v'.ownBlock = some k → 0 ≤ k ∧ k < w'.heap.size := hown'.lt
    rw [blk_own hown'] at hb
    refine ⟨?_, (hlt b hb).2⟩
    rcases hat with hh | hh | hh
    · exact .inl (hh ▸ hb)
    · rw [hh] at hb; cases hb
    · rw [hh] at hb; cases hb; exact .inr rfl
  have hsz : w.heap.size ≤ w'.heap.size := hg.size
  have hT : ∀ i, (src ≠ some d ∧ i = d) ∨ Turns s.m (updM (match src with | some i => updM s.m i none | none => s.m) d (some (.arr sz e xs'))) ρ (updV ρ d v') i := by
    intro i
    by_cases ed : i = d
    · subst ed
      by_cases es : src = some i
      · subst es
        obtain ⟨xs, hi, _, hl⟩ := hsrc
        exact .inr (.inr (.inl ⟨sz, e, xs, e, xs', hi, by rw [updM_same], hl rfl⟩))
      · exact .inl ⟨es, rfl⟩
    · refine .inr ?_
      cases src with
      | none => exact .inr (.inr ⟨updV_ne _ _ ed, .inl (updM_ne _ _ ed)⟩)
      | some k =>
        by_cases ek : i = k
        · subst ek; exact .inl (by rw [updM_ne _ _ ed]; exact updM_same _ _ _)
        · exact .inr (.inr ⟨updV_ne _ _ ed, .inl (by rw [updM_ne _ _ ed]; exact updM_ne _ _ ek)⟩)
  refine h.turn (w' := w') ⟨hg.os, hg.tape, hg.output, hg.size, fun b hb hn => hg.block b hb fun e => hn (hub b e.symm).1⟩ ?_ ?_ ?_ ?_ ?_ (fun i hi => updV_ne _ _ (by omega))
  · rintro b ⟨i, o, hi, hb⟩
    by_cases ed : i = d
    · subst ed; rw [updV_same] at hb
      rcases (hv b hb).1 with hh | hh
      · exact .inl (hub b hh).1
      · exact .inr (by omega)
    · rw [updM_ne _ _ ed] at hi; rw [updV_ne _ _ ed] at hb
      exact .inl ⟨i, o, (hsm i ed o hi).1, hb⟩
  · intro i
    rcases hT i with ⟨h1, rfl⟩ | ht
    · exact .inl (hfresh h1).1
    · exact .inr ht
  · intro hL hw i o hi
    by_cases ed : i = d
    · subst ed; rw [updM_same] at hi; cases hi; rw [updV_same]
      exact ⟨h0, vs', hown', hx _ hL⟩
    · rw [updM_ne _ _ ed] at hi; rw [updV_ne _ _ ed]
      obtain ⟨hi', hne⟩ := hsm i ed o hi
      refine (h.obj i o hi').keep hL hw (fun b hb => hg.block b (h.own i o b hi' hb).2 fun eb => ?_) fun k => ?_
      · obtain ⟨_, k, hk, hbk⟩ := hub b eb.symm
        subst hk
        obtain ⟨xs, hk', _⟩ := hsrc
        exact hne (by rw [h.inj k i _ o b hk' hi' hbk hb])
      · rcases hT k with ⟨h1, rfl⟩ | ht
        · exact .inl ((hfresh h1).2 i o hi')
        · exact .inr ht
  · intro i o b hi hb
    by_cases ed : i = d
    · subst ed; rw [updV_same] at hb
      obtain ⟨h1, h2⟩ := hv b hb
      refine ⟨?_, h2⟩
      rcases h1 with h1 | h1
      · obtain ⟨_, k, hk, hbk⟩ := hub b h1
        subst hk
        obtain ⟨xs, hk', _⟩ := hsrc
        exact (h.own k _ b hk' hbk).1
      · exact .inr (by have := h.keep.size; omega)
    · rw [updM_ne _ _ ed] at hi; rw [updV_ne _ _ ed] at hb
      have := h.own i o b (hsm i ed o hi).1 hb
      exact ⟨this.1, by omega⟩
  · have key : ∀ i oi b, i ≠ d → updM (match src with | some i => updM s.m i none | none => s.m) d (some (.arr sz e xs')) i = some oi → Value.blk (updV ρ d v' i) = some b → Value.blk v' = some b → False := by
      intro i oi b ed hi hb hvb
      rw [updM_ne _ _ ed] at hi; rw [updV_ne _ _ ed] at hb
      obtain ⟨hi', hne⟩ := hsm i ed oi hi
      rcases (hv b hvb).1 with h1 | h1
      · obtain ⟨_, k, hk, hbk⟩ := hub b h1
        subst hk
        obtain ⟨xs, hk', _⟩ := hsrc
        exact hne (by rw [h.inj k i _ oi b hk' hi' hbk hb])
      · have := (h.own i oi b hi' hb).2; omega
    intro i j oi oj b hi hj hbi hbj
    by_cases ei : i = d
    · by_cases ej : j = d
      · rw [ei, ej]
      · subst ei; rw [updV_same] at hbi
        exact (key j oj b ej hj hbj hbi).elim
    · by_cases ej : j = d
      · subst ej; rw [updV_same] at hbj
        exact (key i oi b ei hi hbi hbj).elim
      · rw [updM_ne _ _ ei] at hi; rw [updV_ne _ _ ei] at hbi
        rw [updM_ne _ _ ej] at hj; rw [updV_ne _ _ ej] at hbj
        exact h.inj i j oi oj b (hsm i ei oi hi).1 (hsm j ej oj hj).1 hbi hbj

/-- Cell j of a variable of the call's own. -/
theorem ObRel.box_cell {L : Nat → Prop} {m : Nat → Option Ob} {u : Value} {cells : List AV} (h : ObRel w L ρ m u (.box cells)) :
    ∃ b cs ty, u = .pointer (some ⟨b, 0, none⟩) ∧ w.heap[b]? = some (.cells cs ty (0, 0)) ∧ cs.size = cells.length ∧
      (∀ j y, cells[j]? = some y → w.cell? ⟨b, j, none⟩ = some (cs.getD j undef) ∧ RepA w L ρ m (cs.getD j undef) y) ∧ ∀ j, w.frozen? ⟨b, j, none⟩ = false := by
  obtain ⟨b, cs, ty, rfl, hh, hs, hc⟩ := h
  refine ⟨b, cs, ty, rfl, hh, hs, fun j y hy => ⟨?_, hc j y hy⟩, fun j => ?_⟩
  · rw [cell_of_row w b j cs ty (0, 0) hh]
    have hlt : j < cs.size := by rw [hs]; exact (List.getElem?_eq_some_iff.1 hy).1
    simp [hlt]
  · simp [World.frozen?, hh]

/-- The cells of element k of a slice of the call's own. -/
theorem ObRel.arr_cell {L : Nat → Prop} {m : Nat → Option Ob} {u : Value} {sz e : Nat} {xs : List CV} (h : ObRel w L ρ m u (.arr sz e xs)) {k : Nat} {x : CV} (hk : xs[k]? = some x) :
    x.cells.length = sz ∧ ∃ b cap, u = .slice (some ⟨b, 0, none⟩) xs.length cap ∧
      ∀ j y, x.cells[j]? = some y → ∃ v, w.cell? ⟨b, k * sz + j, none⟩ = some v ∧ Rep w L v y := by
  obtain ⟨h0, vs, hown, hx⟩ := h
  have hlt : k < xs.length := (List.getElem?_eq_some_iff.1 hk).1
  refine ⟨(hx k x hk).1, ?_⟩
  rcases hown.2 with ⟨_, h2⟩ | ⟨g, cap, cur, hv, hbg, hgg, hnc, hcm, hcs, htake⟩
  · omega
  · refine ⟨g, cap, hv, fun j y hy => ⟨vs.getD (k * sz + j) undef, ?_, (hx k x hk).2 j y hy⟩⟩
    have hj : j < sz := by rw [← (hx k x hk).1]; exact (List.getElem?_eq_some_iff.1 hy).1
    have hlt2 : k * sz + j < vs.length := by
      rw [hown.1]
      calc k * sz + j < k * sz + sz := by omega
        _ = (k + 1) * sz := by rw [Nat.succ_mul]
        _ ≤ xs.length * sz := Nat.mul_le_mul_right _ (by omega)
    have := hown.cells (g := g) (by rw [hv]; rfl) (k * sz + j) (vs.getD (k * sz + j) undef) (by simp [List.getD, List.getElem?_eq_getElem hlt2])
    rwa [show (⟨g, 0, none⟩ : Addr).add (k * sz + j) = ⟨g, k * sz + j, none⟩ by unfold Addr.add; split <;> simp_all] at this
end
end Go.AM
