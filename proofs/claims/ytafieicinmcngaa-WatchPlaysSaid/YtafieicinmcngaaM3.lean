/- The abstract machine, part 3: how a standing state is carried over a step. It speaks of whatever program. -/
import Derived.Test.YtafieicinmcngaaM2
namespace Go.AM
open Go Go.RowKit
set_option linter.unusedVariables false

theorem ObRel.keep {w w' : World} {L L' : Nat → Prop} {ρ ρ' : Nat → Value} {m m' : Nat → Option Ob} {u : Value} {o : Ob} (h : ObRel w L ρ m u o)
    (hL : ∀ b, ¬ L b → b < w.heap.size → ¬ L' b) (hw : ∀ b, ¬ L b → b < w.heap.size → w'.heap[b]? = w.heap[b]?)
    (hb : ∀ b, Value.blk u = some b → w'.heap[b]? = w.heap[b]?)
    (hi : ∀ i, o.noId i ∨ Turns m m' ρ ρ' i) : ObRel w' L' ρ' m' u o := by
  cases o with
  | box cells =>
    obtain ⟨b, cs, ty, rfl, hh, hs, hc⟩ := h
    refine ⟨b, cs, ty, rfl, by rw [hb b rfl]; exact hh, hs, fun j y hy => (hc j y hy).keep hL hw fun i => ?_⟩
    rcases hi i with h | h
    · exact .inl (h j y hy)
    · exact .inr h
  | arr sz e xs =>
    obtain ⟨h0, vs, hown, hx⟩ := h
    refine ⟨h0, vs, ⟨hown.1, ?_⟩, fun i x hix => ⟨(hx i x hix).1, fun j y hy => ((hx i x hix).2 j y hy).keep hL hw⟩⟩
    rcases hown.2 with h2 | ⟨g, cap, cur, hv, hbg, hgg, rest⟩
    · exact .inl h2
    · exact .inr ⟨g, cap, cur, hv, hbg, by rw [hb g (by rw [hv]; rfl)]; exact hgg, rest⟩

def putT (t : Nat → AV) : Option Tmp → AV → Nat → AV
  | some d, v => fun j => bif Nat.beq j d then v else t j
  | none, _ => t

def updM (m : Nat → Option Ob) (i : Nat) (o : Option Ob) : Nat → Option Ob := fun j => bif Nat.beq j i then o else m j
theorem updM_same (m : Nat → Option Ob) (i : Nat) (o : Option Ob) : updM m i o i = o := by simp [updM, Nat.beq_refl]
theorem updM_ne (m : Nat → Option Ob) {i j : Nat} (o : Option Ob) (h : j ≠ i) : updM m i o j = m j := by
  have : Nat.beq j i = false := by
    cases hb : Nat.beq j i with
    | false => rfl
    | true => exact absurd (Nat.eq_of_beq_eq_true hb) h
  simp [updM, this]
def updV (ρ : Nat → Value) (i : Nat) (u : Value) : Nat → Value := fun j => bif Nat.beq j i then u else ρ j
theorem updV_same (ρ : Nat → Value) (i : Nat) (u : Value) : updV ρ i u i = u := by simp [updV, Nat.beq_refl]
theorem updV_ne (ρ : Nat → Value) {i j : Nat} (u : Value) (h : j ≠ i) : updV ρ i u j = ρ j := by
  have : Nat.beq j i = false := by
    cases hb : Nat.beq j i with
    | false => rfl
    | true => exact absurd (Nat.eq_of_beq_eq_true hb) h
  simp [updV, this]

section
variable {C : Ctx} {s : AS} {ρ : Nat → Value} {a : Act} {w : World}

theorem getD_put (a : Act) (d : Tmp) (u : Value) (hd : d < a.tmps.size) (j : Nat) : (a.put (some d) u).tmps.getD j undef = if j = d then u else a.tmps.getD j undef := by
  simp only [Act.put, Array.getD_eq_getD_getElem?]
  by_cases hj : j = d
  · subst hj; simp [hd]
  · rw [if_neg hj, Array.getElem?_setIfInBounds_ne (Ne.symm hj)]

/-- A value is put into the frame. -/
theorem STr.put (h : STr C s ρ a w) (dst : Option Tmp) (hd : ∀ d, dst = some d → d < C.n) {u : Value} {v : AV} (hr : dst ≠ none → RepA w (LL C s.m ρ) ρ s.m u v) :
    STr C ⟨putT s.t dst v, s.m⟩ ρ (a.put dst u) w := by
  cases dst with
  | none => exact ⟨h.keep, h.old, h.size, h.defers, h.obj, h.own, h.inj, h.tmp, h.fix⟩
  | some d =>
    have hlt : d < a.tmps.size := by rw [h.size]; exact hd d rfl
    refine ⟨h.keep, h.old, by simpa [Act.put] using h.size, by simpa [Act.put] using h.defers, h.obj, h.own, h.inj, fun j => ?_, h.fix⟩
    rw [getD_put a d u hlt]
    show RepA _ _ _ _ _ (bif Nat.beq j d then v else s.t j)
    by_cases hj : j = d
    · subst hj; simp only [if_true, Nat.beq_refl, cond_true]; exact hr (by simp)
    · have hb : Nat.beq j d = false := by
        cases hb : Nat.beq j d with
        | false => rfl
        | true => exact absurd (Nat.eq_of_beq_eq_true hb) hj
      rw [if_neg hj, hb]; exact h.tmp j

theorem STr.live_lt (h : STr C s ρ a w) {b : Nat} (hb : LL C s.m ρ b) : b < w.heap.size := by
  rcases hb with hb | ⟨i, o, hi, hb⟩
  · exact Nat.lt_of_lt_of_le (h.old b hb) h.keep.size
  · exact (h.own i o b hi hb).2

/-- The general step: the memory told of turns, the frame's temporaries stay. -/
theorem STr.turn (h : STr C s ρ a w) {m' : Nat → Option Ob} {ρ' : Nat → Value} {w' : World}
    (hk : Keep (fun b => live s.m ρ b) w w')
    (hlive : ∀ b, live m' ρ' b → live s.m ρ b ∨ w.heap.size ≤ b)
    (hT : ∀ i, (∀ j, NoId i (s.t j)) ∨ Turns s.m m' ρ ρ' i)
    (hobj : (∀ b, ¬ LL C s.m ρ b → b < w.heap.size → ¬ LL C m' ρ' b) → (∀ b, ¬ LL C s.m ρ b → b < w.heap.size → w'.heap[b]? = w.heap[b]?) → ∀ i o, m' i = some o → ObRel w' (LL C m' ρ') ρ' m' (ρ' i) o)
    (hown : ∀ i o b, m' i = some o → Value.blk (ρ' i) = some b → (C.T0 b ∨ C.w0.heap.size ≤ b) ∧ b < w'.heap.size)
    (hinj : ∀ i j oi oj b, m' i = some oi → m' j = some oj → Value.blk (ρ' i) = some b → Value.blk (ρ' j) = some b → i = j)
    (hfix : ∀ i, 1000000 ≤ i → ρ' i = ρ i) :
    STr C ⟨s.t, m'⟩ ρ' a w' := by
  have hL : ∀ b, ¬ LL C s.m ρ b → b < w.heap.size → ¬ LL C m' ρ' b := by
    rintro b hn hlt (hb | hb)
    · exact hn (.inl hb)
    · rcases hlive b hb with hb | hb
      · exact hn (.inr hb)
      · omega
  have hw : ∀ b, ¬ LL C s.m ρ b → b < w.heap.size → w'.heap[b]? = w.heap[b]? := fun b hn hlt => hk.block b hlt fun hl => hn (.inr hl)
  refine ⟨h.keep.trans hk ?_, h.old, h.size, h.defers, hobj hL hw, hown, hinj, fun j => (h.tmp j).keep hL hw fun i => ?_, fun i hi => (hfix i hi).trans (h.fix i hi)⟩
  · rintro b hb ⟨i, o, hi, hbi⟩
    rcases (h.own i o b hi hbi).1 with ht | ht
    · exact ht
    · omega
  · rcases hT i with hn | ht
    · exact .inl (hn j)
    · exact .inr ht

/-- New memory that nobody is told of; draws. -/
theorem STr.world (h : STr C s ρ a w) {w' : World} (hk : Keep (fun _ => False) w w') : STr C s ρ a w' := by
  refine h.turn (m' := s.m) (ρ' := ρ) (hk.mono fun _ _ f => f.elim) (fun b hb => .inl hb) (fun i => .inr (.inr (.inr ⟨rfl, .inl rfl⟩))) ?_ (fun i o b hi hb => ?_) h.inj (fun _ _ => rfl)
  · intro hL hw i o hi
    exact (h.obj i o hi).keep hL hw (fun b hb => hk.block b (h.own i o b hi hb).2 id) fun i => .inr (.inr (.inr ⟨rfl, .inl rfl⟩))
  · have := h.own i o b hi hb
    exact ⟨this.1, Nat.lt_of_lt_of_le this.2 hk.size⟩

/-- A variable of the call's own is made: a new block. -/
theorem STr.new (h : STr C s ρ a w) (d : Nat) (hd : d < 1000000) (ty : TypeId) (cs : Array Value) (cells : List AV) (hs : cs.size = cells.length)
    (hn : ∀ j, NoId d (s.t j)) (hm : ∀ i o, s.m i = some o → o.noId d) (hc : ∀ y ∈ cells, NoId d y)
    (hr : ∀ j y, cells[j]? = some y → RepA w (LL C s.m ρ) ρ s.m (cs.getD j undef) y) :
    STr C ⟨s.t, updM s.m d (some (.box cells))⟩ (updV ρ d (.pointer (some ⟨w.heap.size, 0, none⟩))) a (w.alloc (.cells cs ty)) := by
  have hT : ∀ i, i ≠ d → Turns s.m (updM s.m d (some (.box cells))) ρ (updV ρ d (.pointer (some ⟨w.heap.size, 0, none⟩))) i :=
    fun i hi => .inr (.inr ⟨updV_ne _ _ hi, .inl (updM_ne _ _ hi)⟩)
  refine h.turn (Keep.alloc _ _ _) ?_ (fun i => ?_) ?_ ?_ ?_ (fun i hi => updV_ne _ _ (by omega))
  · rintro b ⟨i, o, hi, hb⟩
    by_cases e : i = d
    · subst e; rw [updV_same] at hb; cases hb; exact .inr (Nat.le_refl _)
    · rw [updM_ne _ _ e] at hi; rw [updV_ne _ _ e] at hb; exact .inl ⟨i, o, hi, hb⟩
  · by_cases e : i = d
    · subst e; exact .inl hn
    · exact .inr (hT i e)
  · intro hL hw i o hi
    by_cases e : i = d
    · subst e; rw [updM_same] at hi; cases hi; rw [updV_same]
      refine ⟨_, cs, ty, rfl, heap_alloc_new w _, hs, fun j y hy => (hr j y hy).keep hL hw fun k => ?_⟩
      by_cases ek : k = i
      · subst ek; exact .inl (hc y (List.mem_of_getElem? hy))
      · exact .inr (hT k ek)
    · rw [updM_ne _ _ e] at hi; rw [updV_ne _ _ e]
      refine (h.obj i o hi).keep hL hw (fun b hb => Below.heap_alloc w _ b (h.own i o b hi hb).2) fun k => ?_
      by_cases ek : k = d
      · subst ek; exact .inl (hm i o hi)
      · exact .inr (hT k ek)
  · intro i o b hi hb
    by_cases e : i = d
    · subst e; rw [updV_same] at hb; cases hb
      exact ⟨.inr h.keep.size, by simp⟩
    · rw [updM_ne _ _ e] at hi; rw [updV_ne _ _ e] at hb
      have := h.own i o b hi hb
      exact ⟨this.1, by simp; omega⟩
  · intro i j oi oj b hi hj hbi hbj
    by_cases ei : i = d
    · by_cases ej : j = d
      · rw [ei, ej]
      · subst ei; rw [updV_same] at hbi; cases hbi
        rw [updM_ne _ _ ej] at hj; rw [updV_ne _ _ ej] at hbj
        exact absurd (h.own j oj _ hj hbj).2 (by simp)
    · rw [updM_ne _ _ ei] at hi; rw [updV_ne _ _ ei] at hbi
      by_cases ej : j = d
      · subst ej; rw [updV_same] at hbj; cases hbj
        exact absurd (h.own i oi _ hi hbi).2 (by simp)
      · rw [updM_ne _ _ ej] at hj; rw [updV_ne _ _ ej] at hbj
        exact h.inj i j oi oj b hi hj hbi hbj

/-- An object's own block turns, and with it what is told of it; it stays where it is. -/
theorem STr.write (h : STr C s ρ a w) (i : Nat) (o o' : Ob) (hi : s.m i = some o) {w' : World} {b : Nat} (hb : Value.blk (ρ i) = some b) (hk : Keep (fun x => x = b) w w')
    (hlike : (∃ cs cs', o = .box cs ∧ o' = .box cs') ∨ ∃ sz e xs e' xs', o = .arr sz e xs ∧ o' = .arr sz e' xs' ∧ xs.length = xs'.length)
    (hobj : (∀ v x, RepA w (LL C s.m ρ) ρ s.m v x → RepA w' (LL C (updM s.m i (some o')) ρ) ρ (updM s.m i (some o')) v x) →
      (∀ v x, Rep w (LL C s.m ρ) v x → Rep w' (LL C (updM s.m i (some o')) ρ) v x) → ObRel w' (LL C (updM s.m i (some o')) ρ) ρ (updM s.m i (some o')) (ρ i) o') :
    STr C ⟨s.t, updM s.m i (some o')⟩ ρ a w' := by
  have hT : ∀ k, Turns s.m (updM s.m i (some o')) ρ ρ k := by
    intro k
    by_cases e : k = i
    · subst e
      refine .inr (.inr ⟨rfl, ?_⟩)
      rcases hlike with ⟨cs, cs', h1, h2⟩ | ⟨sz, e, xs, e', xs', h1, h2, hl⟩
      · exact .inr (.inl ⟨cs, cs', by rw [hi, h1], by rw [updM_same, h2]⟩)
      · exact .inr (.inr ⟨sz, e, xs, e', xs', by rw [hi, h1], by rw [updM_same, h2], hl⟩)
    · exact .inr (.inr ⟨rfl, .inl (updM_ne _ _ e)⟩)
  have hkl : Keep (fun b => live s.m ρ b) w w' := hk.mono fun x _ hx => by subst hx; exact ⟨i, o, hi, hb⟩
  refine h.turn hkl ?_ (fun k => .inr (hT k)) ?_ ?_ ?_ (fun _ _ => rfl)
  · rintro x ⟨k, ok, hk', hbk⟩
    by_cases e : k = i
    · subst e; exact .inl ⟨k, o, hi, hbk⟩
    · rw [updM_ne _ _ e] at hk'; exact .inl ⟨k, ok, hk', hbk⟩
  · intro hL hw k ok hk'
    by_cases e : k = i
    · subst e; rw [updM_same] at hk'; cases hk'
      exact hobj (fun v x hx => hx.keep hL hw fun q => .inr (hT q)) (fun v x hx => hx.keep hL hw)
    · rw [updM_ne _ _ e] at hk'
      refine (h.obj k ok hk').keep hL hw (fun x hx => hk.block x (h.own k ok x hk' hx).2 fun ex => e (h.inj k i ok o x hk' hi hx (by rw [ex]; exact hb))) fun q => .inr (hT q)
  · intro k ok x hk' hx
    by_cases e : k = i
    · subst e
      have := h.own k o x hi hx
      exact ⟨this.1, Nat.lt_of_lt_of_le this.2 hk.size⟩
    · rw [updM_ne _ _ e] at hk'
      have := h.own k ok x hk' hx
      exact ⟨this.1, Nat.lt_of_lt_of_le this.2 hk.size⟩
  · intro k l ok ol x hk' hl hx hx'
    have f : ∀ q oq, updM s.m i (some o') q = some oq → ∃ oq', s.m q = some oq' := by
      intro q oq hq
      by_cases e : q = i
      · subst e; exact ⟨o, hi⟩
      · rw [updM_ne _ _ e] at hq; exact ⟨oq, hq⟩
    obtain ⟨ok', hk''⟩ := f k ok hk'
    obtain ⟨ol', hl''⟩ := f l ol hl
    exact h.inj k l ok' ol' x hk'' hl'' hx hx'
end
end Go.AM
