/- The abstract machine's further steps: states that say the same under other names; parts of rows become rows; calls with more objects. It speaks of whatever program. -/
import Derived.Test.YtcmldokgjbmbdaaS6
namespace Go.AM
open Go Go.RowKit
set_option linter.unusedVariables false
set_option linter.unusedSimpArgs false

/-- What one state says, the other says too. -/
def Sim (C : Ctx) (s s' : AS) : Prop := ∀ a w, ST C s a w → ST C s' a w
section
variable {E : Env} {C : Ctx} {s s' s'' : AS} {Q : Ex → AS → Prop}
theorem Sim.trans (h : Sim C s s') (k : Sim C s' s'') : Sim C s s'' := fun a w hs => k a w (h a w hs)
theorem Sim.wk (hk : Wk s s') (hT : ∀ b, C.T0 b → ¬ C.L0 b) : Sim C s s' := fun a w ⟨ρ, hs⟩ => ⟨ρ, hs.weak hk hT⟩
theorem CQ.sim {c : Code} (hk : Sim C s s') (h : CQ E C c s' Q) : CQ E C c s Q := fun a w hs => h a w (hk a w hs)
/-- A loop; each round's end says what its next head says. -/
theorem CQ.loopS {ι : Type} {c : Code} (S : ι → AS) (Inv : ι → Prop) (μ : ι → Nat) (x0 : ι) (h0 : Inv x0) (hs : Sim C s (S x0))
    (round : ∀ x, Inv x → CQ E C c (S x) (thenQ (fun s' => ∃ x', Inv x' ∧ μ x' < μ x ∧ Sim C s' (S x')) Q)) : CQ E C (.loop c) s Q := by
  intro a w hst
  refine wp_loop_rel (fun n a w => ∃ x, Inv x ∧ μ x = n ∧ ST C (S x) a w) ⟨μ x0, x0, h0, rfl, hs a w hst⟩ ?_
  rintro n a w ⟨x, hx, rfl, hsx⟩
  refine Code.wp_mono ?_ (round x hx a w hsx)
  rintro e a' w' ⟨q, s', he, hq, hs'⟩
  cases e <;> simp [Ex.ofExit] at he <;> subst he
  · obtain ⟨x', hi, hlt, hk⟩ := hq
    exact ⟨μ x', hlt, x', hi, rfl, hk a' w' hs'⟩
  · exact ⟨_, s', rfl, hq, hs'⟩
  · exact ⟨_, s', rfl, hq, hs'⟩

/-! two names for one another -/
def swp (a b k : Nat) : Nat := bif Nat.beq k a then b else bif Nat.beq k b then a else k
theorem beq_ff {a b : Nat} (h : a ≠ b) : Nat.beq a b = false := by
  cases hb : Nat.beq a b with
  | false => rfl
  | true => exact absurd (Nat.eq_of_beq_eq_true hb) h
theorem swp_l (a b : Nat) : swp a b a = b := by simp [swp, Nat.beq_refl]
theorem swp_r (a b : Nat) : swp a b b = a := by
  unfold swp
  by_cases e : b = a
  · subst e; simp [Nat.beq_refl]
  · rw [beq_ff e, Nat.beq_refl]; rfl
theorem swp_o {a b k : Nat} (h1 : k ≠ a) (h2 : k ≠ b) : swp a b k = k := by simp [swp, beq_ff h1, beq_ff h2]
theorem swp_swp (a b k : Nat) : swp a b (swp a b k) = k := by
  by_cases h1 : k = a
  · subst h1; rw [swp_l, swp_r]
  · by_cases h2 : k = b
    · subst h2; rw [swp_r, swp_l]
    · rw [swp_o h1 h2, swp_o h1 h2]
theorem swp_inj (a b : Nat) : ∀ i j, swp a b i = swp a b j → i = j := fun i j h => by rw [← swp_swp a b i, h, swp_swp]
inductive RenT (r : Nat → Nat) : List (Nat × AV) → List (Nat × AV) → Prop where
  | nil : RenT r [] []
  | cons {k : Nat} {x y : AV} {xs ys : List (Nat × AV)} (h : Ren r x y) (hs : RenT r xs ys) : RenT r ((k, x) :: xs) ((k, y) :: ys)
theorem RenT.get {r : Nat → Nat} {ts ts' : List (Nat × AV)} (h : RenT r ts ts') (j : Nat) : Ren r (mkT ts j) (mkT ts' j) := by
  induction h with
  | nil => exact .any
  | cons h hs ih =>
    rename_i k x y xs ys
    show Ren r (bif Nat.beq j k then x else mkT xs j) (bif Nat.beq j k then y else mkT ys j)
    cases Nat.beq j k with
    | true => exact h
    | false => exact ih
/-- Other names for all: r tells them. -/
theorem Sim.ren (r ri : Nat → Nat) (h1 : ∀ k, ri (r k) = k) (ts ts' : List (Nat × AV)) (ms ms' : List (Nat × Ob)) (hT : ∀ b, C.T0 b → ¬ C.L0 b) (hw : Wk s ⟨mkT ts, mkM ms⟩)
    (hk : ms.all (fun p => Nat.blt (r p.1) 1000000 || Nat.beq (r p.1) p.1) = true) (ht : RenT r ts ts') (hm : RenM r ms ms') : Sim C s ⟨mkT ts', mkM ms'⟩ := by
  refine (Sim.wk hw hT).trans fun a' w ⟨ρ, h⟩ => ?_
  have hi : ∀ i j, r i = r j → i = j := fun i j e => by rw [← h1 i, e, h1]
  let ρ' : Nat → Value := fun k => if 1000000 ≤ k then ρ k else ρ (ri k)
  let ρb : Nat → Value := fun i => ρ' (r i)
  have hρ : ∀ i, ρb i = ρ' (r i) := fun _ => rfl
  have hkey : ∀ i o, mkM ms i = some o → ρb i = ρ i := by
    intro i o hio
    have := List.all_eq_true.1 hk _ (mkM_mem hio)
    simp only [Bool.or_eq_true] at this
    show (if 1000000 ≤ r i then ρ (r i) else ρ (ri (r i))) = ρ i
    rcases this with h | h
    · have := Nat.le_of_ble_eq_true h
      rw [if_neg (by omega), h1]
    · have := Nat.eq_of_beq_eq_true h
      rw [h1]; split
      · rw [this]
      · rfl
  have hTu : ∀ i, Turns (mkM ms) (mkM ms) ρ ρb i := by
    intro i
    cases hio : mkM ms i with
    | none => exact .inl hio
    | some o => exact .inr (.inr ⟨hkey i o hio, .inl rfl⟩)
  have hlb : ∀ b, live (mkM ms) ρb b ↔ live (mkM ms) ρ b := fun b =>
    ⟨fun ⟨i, o, h2, h3⟩ => ⟨i, o, h2, by rw [← hkey i o h2]; exact h3⟩, fun ⟨i, o, h2, h3⟩ => ⟨i, o, h2, by rw [hkey i o h2]; exact h3⟩⟩
  have hLb : LL C (mkM ms) ρb = LL C (mkM ms) ρ := funext fun b => propext (by unfold LL; rw [hlb])
  have hl : ∀ x, LL C (mkM ms') ρ' x ↔ LL C (mkM ms) ρb x := fun x => by unfold LL; rw [ren_live hi hρ hm]
  have hl' : LL C (mkM ms') ρ' = LL C (mkM ms) ρb := funext fun x => propext (hl x)
  refine ⟨ρ', h.keep, h.old, h.size, h.defers, fun k o' hk => ?_, fun k o' x hk hx => ?_, fun k l ok ol x hk hlo hx hx' => ?_, fun j => ?_, fun i hi6 => ?_⟩
  · obtain ⟨i, o, rfl, h2, h3⟩ := hm.from hk
    refine (h3.obRel hi hl hρ hm _).2 ?_
    rw [← hρ, hkey i o h2]
    exact (h.obj i o h2).keep (fun b hb _ hb' => hb (by rw [hLb] at hb'; exact hb')) (fun _ _ _ => rfl) (fun _ _ => rfl) fun k => .inr (hTu k)
  · obtain ⟨i, o, rfl, h2, _⟩ := hm.from hk
    rw [← hρ, hkey i o h2] at hx
    exact h.own i o x h2 hx
  · obtain ⟨i, o, rfl, h2, _⟩ := hm.from hk
    obtain ⟨j, p, rfl, h3, _⟩ := hm.from hlo
    rw [← hρ, hkey i o h2] at hx
    rw [← hρ, hkey j p h3] at hx'
    rw [h.inj i j o p x h2 h3 hx hx']
  · rw [hl']
    refine (ht.get j).rep hi hρ hm _ ?_
    exact (h.tmp j).keep (fun b hb _ hb' => hb (by rw [hLb] at hb'; exact hb')) (fun _ _ _ => rfl) fun k => .inr (hTu k)
  · show (if 1000000 ≤ i then ρ i else _) = _
    rw [if_pos hi6]
    exact h.fix i hi6
/-- Names for names, one after the other. -/
def swps : List (Nat × Nat) → Nat → Nat
  | [], k => k
  | (a, b) :: l, k => swps l (swp a b k)
def unswps : List (Nat × Nat) → Nat → Nat
  | [], k => k
  | (a, b) :: l, k => swp a b (unswps l k)
theorem unswps_swps : ∀ (l : List (Nat × Nat)) (k : Nat), unswps l (swps l k) = k
  | [], k => rfl
  | (a, b) :: l, k => by show swp a b (unswps l (swps l (swp a b k))) = k; rw [unswps_swps l, swp_swp]
theorem Sim.swaps (l : List (Nat × Nat)) (ts ts' : List (Nat × AV)) (ms ms' : List (Nat × Ob)) (hT : ∀ b, C.T0 b → ¬ C.L0 b) (hw : Wk s ⟨mkT ts, mkM ms⟩)
    (hk : ms.all (fun p => Nat.blt (swps l p.1) 1000000 || Nat.beq (swps l p.1) p.1) = true) (ht : RenT (swps l) ts ts') (hm : RenM (swps l) ms ms') : Sim C s ⟨mkT ts', mkM ms'⟩ :=
  .ren _ _ (unswps_swps l) ts ts' ms ms' hT hw hk ht hm
theorem Sim.swap (a b : Nat) (ts ts' : List (Nat × AV)) (ms ms' : List (Nat × Ob)) (hT : ∀ b, C.T0 b → ¬ C.L0 b) (hw : Wk s ⟨mkT ts, mkM ms⟩)
    (hk : ms.all (fun p => Nat.blt (swps [(a, b)] p.1) 1000000 || Nat.beq (swps [(a, b)] p.1) p.1) = true) (ht : RenT (swps [(a, b)]) ts ts') (hm : RenM (swps [(a, b)]) ms ms') : Sim C s ⟨mkT ts', mkM ms'⟩ :=
  .swaps [(a, b)] ts ts' ms ms' hT hw hk ht hm
/-- What is left may be told under other names. -/
theorem CQ.post {c : Code} (h : CQ E C c s (fun e s' => ∃ s'', Sim C s' s'' ∧ Q e s'')) : CQ E C c s Q := fun a w hs => by
  refine Code.wp_mono ?_ (h a w hs)
  rintro e a' w' ⟨x, s', he, ⟨s'', hk, hq⟩, hs'⟩
  exact ⟨x, s'', he, hq, hk a' w' hs'⟩

/-! a part of a row is a row -/
inductive SeA (i n l h d : Nat) : AV → AV → Prop where
  | any (x : AV) : SeA i n l h d x .any
  | refl (x : AV) : SeA i n l h d x x
  | view : SeA i n l h d (.mv i n l h none) (.ms d (h - l))
inductive SeT (i n l h d : Nat) : List (Nat × AV) → List (Nat × AV) → Prop where
  | nil : SeT i n l h d [] []
  | cons {k : Nat} {x y : AV} {xs ys : List (Nat × AV)} (hx : SeA i n l h d x y) (hs : SeT i n l h d xs ys) : SeT i n l h d ((k, x) :: xs) ((k, y) :: ys)
theorem SeT.get {i n l h d : Nat} {ts ts' : List (Nat × AV)} (hs : SeT i n l h d ts ts') (j : Nat) : SeA i n l h d (mkT ts j) (mkT ts' j) := by
  induction hs with
  | nil => exact .refl _
  | cons hx hs ih =>
    rename_i k x y xs ys
    show SeA i n l h d (bif Nat.beq j k then x else mkT xs j) (bif Nat.beq j k then y else mkT ys j)
    cases Nat.beq j k with
    | true => exact hx
    | false => exact ih
/-- U: the objects that the state tells of. -/
theorem Sim.settle (i n l h d : Nat) {sz e : Nat} {xs : List CV} (ts ts' : List (Nat × AV)) (ms : List (Nat × Ob)) (U : List Nat) (hT : ∀ b, C.T0 b → ¬ C.L0 b) (hw : Wk s ⟨mkT ts, mkM ((i, .arr sz e xs) :: ms)⟩)
    (hf : Fresh U ⟨mkT ts, mkM ((i, .arr sz e xs) :: ms)⟩) (hU : U.contains d = false) (hd : Nat.blt d 1000000 = true) (hn : xs.length = n) (h0 : 0 < n) (hlh : l ≤ h) (hhn : h ≤ n) (hi : (ms.map (·.1)).contains i = false) (hid : i ≠ d)
    (ht : SeT i n l h d ts ts') : Sim C s ⟨mkT ts', mkM ((d, .arr sz e ((xs.drop l).take (h - l))) :: ms)⟩ := by
  refine (Sim.wk hw hT).trans fun a w ⟨ρ, hs⟩ => ?_
  have hd := Nat.le_of_ble_eq_true hd
  obtain ⟨hn1, hn2⟩ := hf d (by simpa using hU)
  have hmi : mkM ((i, .arr sz e xs) :: ms) i = some (.arr sz e xs) := by simp only [mkM, updM_same]
  have hmi' : (⟨mkT ts, mkM ((i, .arr sz e xs) :: ms)⟩ : AS).m i = some (.arr sz e xs) := hmi
  obtain ⟨hs0, b, of, cap, cur, vs, hρ, hgg, hnc, hcm, hcs, htake, hel, _⟩ := hs.row hmi' hn h0
  have hvl : vs.length = n * sz := by rw [← hn]; exact hel.1
  have hns : n * sz ≤ cap * sz := Nat.mul_le_mul_right _ hnc
  have hhs : h * sz ≤ n * sz := Nat.mul_le_mul_right _ hhn
  have hls : l * sz ≤ h * sz := Nat.mul_le_mul_right _ hlh
  have hsub : (h - l) * sz = h * sz - l * sz := Nat.sub_mul _ _ _
  have hxl : ((xs.drop l).take (h - l)).length = h - l := by simp; omega
  have hcl : (cap - l) * sz = cap * sz - l * sz := Nat.sub_mul _ _ _
  have hown : ownsV w e sz (.slice (some ⟨b, if cap = l then of else of + l * sz, none⟩) (h - l) (cap - l)) ((xs.drop l).take (h - l)).length ((vs.drop (l * sz)).take ((h - l) * sz)) := by
    rw [hxl]
    refine ⟨by rw [List.length_take, List.length_drop, hvl]; omega, .inr ⟨b, _, cap - l, cur, rfl, hgg, by omega, by omega, ?_, ?_⟩⟩
    · split
      · omega
      · omega
    · split
      · have : h - l = 0 := by omega
        rw [this]; simp
      · rw [← htake]
        apply List.ext_getElem?
        intro q
        simp only [List.getElem?_take, List.getElem?_drop]
        repeat' split
        all_goals first | rfl | omega | (congr 1; omega)
  have hgrow := hs.grow (some i) d sz e hd ((xs.drop l).take (h - l)) (ρ i) (.slice (some ⟨b, if cap = l then of else of + l * sz, none⟩) (h - l) (cap - l)) ((vs.drop (l * sz)).take ((h - l) * sz)) hs0
    ⟨xs, hmi, rfl, fun e' => absurd e' hid⟩ (fun _ => ⟨hn1, hn2⟩) hown ⟨rfl, rfl, rfl, Nat.le_refl _, fun _ _ _ => rfl⟩ (.inl (by rw [hρ]; rfl))
    (fun L' hL' k x hk => by
      have hel2 := (hel.drop (k := l) (by omega)).take (k := h - l) (by simp; omega)
      exact ⟨(hel2.2 k x hk).1, fun j y hj => ((hel2.2 k x hk).2 j y hj).keep hL' (fun _ _ _ => rfl)⟩)
  have hmm : (updM (updM (mkM ((i, .arr sz e xs) :: ms)) i none) d (some (.arr sz e ((xs.drop l).take (h - l))))) = mkM ((d, .arr sz e ((xs.drop l).take (h - l))) :: ms) := by
    funext k
    by_cases e1 : k = d
    · subst e1; simp only [mkM, updM_same]
    · simp only [mkM, updM_ne _ _ e1]
      by_cases e2 : k = i
      · subst e2
        rw [updM_same]
        exact (mkM_none.2 (by simpa using hi)).symm
      · simp only [updM_ne _ _ e2]
  simp only at hgrow
  rw [hmm] at hgrow
  refine ⟨_, hgrow.keep, hgrow.old, hgrow.size, hgrow.defers, hgrow.obj, hgrow.own, hgrow.inj, fun j => ?_, hgrow.fix⟩
  have h1 := hgrow.tmp j
  have h2 := hs.tmp j
  have h3 := ht.get j
  simp only at h1 h2 h3 ⊢
  generalize mkT ts j = x at h1 h2 h3
  generalize mkT ts' j = y at h3
  cases h3 with
  | any => exact .any _
  | refl => exact h1
  | view =>
    obtain ⟨b', o', cap', hρ', _, _, _, hv⟩ := (h2.mv_inv _ _ _ hmi).2 hn
    rw [hρ] at hρ'; cases hρ'
    simp only [Option.getD_none] at hv
    refine .ms fun sz' e' xs' hm' => ?_
    simp only [mkM, updM_same] at hm'; cases hm'
    exact ⟨by rw [hxl]; exact Nat.le_refl _, fun _ => by rw [updV_same]; exact hv⟩

theorem fvW {U : List Nat} {i n l h : Nat} {c : Option Nat} (hh : U.contains i = true) : ∀ d, d ∉ U → NoId d (.mv i n l h c) := fun d hd => .mv (inU hh d hd)
theorem frW {U : List Nat} {ts : List (Nat × AV)} {ms : List (Nat × Ob)} (h : Fresh U ⟨mkT ts, mkM ms⟩ := by
  first | (· (repeat' (first | exact frB | refine frM ?_ ?_ | refine frT ?_ ?_ | exact fvC | exact fvA | exact fvL rfl | exact fvM rfl | exact fvW rfl | exact foA | refine foB ?_ | exact fvCa _ | exact fvN | refine fvK ?_ ?_ | refine fvG ?_))) | fail) : Fresh U ⟨mkT ts, mkM ms⟩ := h
/-! steps -/
section
variable {m : Nat → Option Ob} {ev : Operand → AV} {dst : Option Tmp} {callee : Operand} {args : Array Operand} {ats : Array TypeId} {f : FuncId} {xs rs : List AV}
theorem mvW {x : Operand} {i n l h : Nat} {c : Option Nat} (hx : ev x = .mv i n l h c) : StepV E m ev (.move x) (.mv i n l h c) [] := hx ▸ .move x
theorem asW {x : Operand} {i n l h : Nat} {c : Option Nat} (hx : ev x = .mv i n l h c) : StepV E m ev (.assign x) (.mv i n l h c) [] := hx ▸ .assign x
inductive AllM (m : Nat → Option Ob) : List (Nat × Ob) → Prop where
  | nil : AllM m []
  | cons {i : Nat} {o : Ob} {r : List (Nat × Ob)} (h : m i = some o) (hs : AllM m r) : AllM m ((i, o) :: r)
theorem AllM.get {l : List (Nat × Ob)} (h : AllM m l) : ∀ p ∈ l, m p.1 = some p.2 := by
  induction h with
  | nil => intro p hp; simp at hp
  | cons h hs ih =>
    intro p hp
    rcases List.mem_cons.1 hp with rfl | hp
    · exact h
    · exact ih p hp
def nodupB : List Nat → Bool
  | [] => true
  | x :: r => !r.contains x && nodupB r
theorem nodupB_spec : ∀ {l : List Nat}, nodupB l = true → l.Nodup
  | [], _ => .nil
  | x :: r, h => by
    simp only [nodupB, Bool.and_eq_true, Bool.not_eq_true'] at h
    exact List.nodup_cons.2 ⟨by simpa using h.1, nodupB_spec h.2⟩
/-- A call that is handed objects, and hands objects back. -/
theorem coG {oa ob : List (Nat × Ob)} {mw : List (Nat × Option Ob)} {R F : List Nat} (hc : ev callee = .c (.v (.func (.func f) #[] #[]))) (hp : Own E.P f xs oa rs ob) (hm : AllM m oa) (hnb : nodupB (ob.map (·.1)) = true) (hlt : (newIds oa ob).all (fun d => Nat.blt d 1000000) = true)
    (hw : ownW oa ob = mw) (hR : oa.map (·.1) = R) (hF : newIds oa ob = F) (hx : ToAs (args.toList.map ev) xs) :
    StepR E m ev dst (.call { callee := .value callee, args := args, argTypes := ats }) (resA rs) mw R F := by
  subst hw; subst hR; subst hF
  exact StepR.callO (us := []) hc (by simpa using hx) hm.get (nodupB_spec hnb) (fun d hd => Nat.le_of_ble_eq_true (List.all_eq_true.1 hlt d hd)) hp
end
/-- A list that is written out, of greater elements. -/
theorem bsH {α : Type} {G : Elt α} {m : Nat → Option Ob} {ev : Operand → AV} {t : TypeId} {e n : Nat} {ps : List (Nat × Operand)} {vs : List α} {d de : TD} (hx : ToGs G (ps.map fun p => ev p.2) vs) (ht : E.Ty t = some d) (hd : d.desc = .slice e) (he : E.Ty e = some de) (hs : de.sz = G.sz)
    (hn : n = vs.length) (hi : ps.map (·.1) = List.range n) (hb : Nat.ble n 1000 = true) (h8 : Nat.ble G.sz 16 = true) : StepV E m ev (.buildSlice t n ⟨ps⟩) (.c (.sl G.sz (vs.map G.g))) [] := by
  subst hn
  have h1 := Nat.le_of_ble_eq_true hb
  have h2 := Nat.le_of_ble_eq_true h8
  have h3 : vs.length * G.sz ≤ 1000 * 16 := Nat.mul_le_mul h1 h2
  have := StepV.bslice (E := E) (m := m) (ev := ev) (t := t) (parts := ⟨ps⟩) (xs := vs.map G.g) ht hd he hs (by have := G.pos; cases hb0 : Nat.beq G.sz 0 with | false => rfl | true => have := Nat.eq_of_beq_eq_true hb0; omega) (by simpa using hi) hx.cs (fun x hx => by
    obtain ⟨v, _, rfl⟩ := List.mem_map.1 hx; exact ⟨G.len v, G.plain v⟩) (by simp; omega)
  simpa using this
end
end Go.AM
