/- The abstract machine, part 17: regions and code, sound. It speaks of whatever program. -/
import Derived.Test.YtafieicinmcngaaM16
namespace Go.AM
open Go Go.RowKit
set_option linter.unusedVariables false
set_option linter.unusedSimpArgs false

section
variable {E : Env} {C : Ctx} {ops : Array Oper} {s' : AS} {Q : Exit → Act → World → Prop}

def dstOk (n : Nat) (ops : Array Oper) : Bool := ops.toList.all fun o => match o.dst with | some d => decide (d < n) | none => true
theorem dstOk_spec {n : Nat} (h : dstOk n ops = true) {i : Nat} {o : Oper} (ho : ops[i]? = some o) : ∀ d, o.dst = some d → d < n := by
  intro d hd
  have := List.all_eq_true.1 h o (by simpa using Array.mem_of_getElem? ho)
  rw [hd] at this; simpa using this

def chkF : List FP → Bool
  | [] => true
  | x :: r => r.all (fun y => disj x.F y.F) && chkF r

theorem run_text (hQ : ∀ a w, ST C s' a w → Q .normal a w) (hd : dstOk C.n ops = true) : ∀ (r : List FP) (s : AS) (a : Act) (w : World), ST C s a w → Run E ops r s s' → chkF r = true → (∀ x ∈ r, ∀ d ∈ x.F, s.noId d) →
    wpOps E.P ops Q (r.map (·.i)) a w
  | [], s, a, w, hs, hr, _, _ => by
    cases hr; exact hQ a w hs
  | x :: r, s, a, w, ⟨ρ, hs⟩, hr, hc, hn => by
    cases hr with
    | cons ho hstep hw hrest =>
      simp only [chkF, Bool.and_eq_true, List.all_eq_true] at hc
      rw [List.map_cons, wpOps_cons]
      refine hstep.wp hs ho (dstOk_spec hd ho) (hn x (by simp)) fun a' w' hs' => run_text hQ hd r _ a' w' hs' hrest hc.2 fun y hy d hdy => ?_
      exact hstep.noId (hn y (by simp [hy]) d hdy) (disj_not (hc.1 y hy) hdy)

theorem textOk_spec (h : textOk ops = true) {j : Nat} {o : Oper} (ho : ops[j]? = some o) {e : Edge} (he : e ∈ o.after.toList) (hb : Region.binds .any e = true) : e.on < j := by
  have hm : (o, j) ∈ ops.toList.zipIdx := by
    rw [List.mem_iff_getElem?]
    refine ⟨j, ?_⟩
    simp [List.getElem?_zipIdx, ho]
  have := List.all_eq_true.1 h _ hm
  have := List.all_eq_true.1 this e he
  rw [hb] at this; simpa using this

theorem mem_ready {listed : Array Bool} {i : Nat} : i ∈ Region.ready .any ops listed ↔ i < ops.size ∧ listed.getD i true = false ∧ ∃ o, ops[i]? = some o ∧ ∀ e ∈ o.after.toList, Region.binds .any e = true → listed.getD e.on false = true := by
  unfold Region.ready
  rw [List.mem_filter]
  constructor
  · rintro ⟨h1, h2⟩
    simp only [Bool.and_eq_true, Bool.not_eq_true'] at h2
    have hlt : i < ops.size := by simpa using h1
    refine ⟨hlt, h2.1, ops[i], by simp [hlt], fun e he hb => ?_⟩
    have h3 := h2.2
    rw [show ops[i]? = some ops[i] from by simp [hlt]] at h3
    simp only [Option.map_some, Option.getD_some] at h3
    have := Array.all_eq_true_iff_forall_mem.1 h3 e (by simpa using he)
    simpa [hb] using this
  · rintro ⟨hlt, h2, o, ho, h3⟩
    refine ⟨by simpa using hlt, ?_⟩
    simp only [Bool.and_eq_true, Bool.not_eq_true']
    refine ⟨h2, ?_⟩
    rw [ho]
    simp only [Option.map_some, Option.getD_some]
    refine Array.all_eq_true_iff_forall_mem.2 fun e he => ?_
    cases hb : Region.binds .any e with
    | false => rfl
    | true => simpa using h3 e (by simpa using he) hb

def Closed (ops : Array Oper) (listed : Array Bool) : Prop :=
  ∀ (j : Nat) (o : Oper), listed.getD j false = true → ops[j]? = some o → ∀ e ∈ o.after.toList, Region.binds .any e = true → listed.getD e.on false = true
theorem Closed.pre {listed : Array Bool} (h : Closed ops listed) {k j : Nat} (hp : Pre ops k j) : listed.getD j false = true → listed.getD k false = true := by
  induction hp with
  | edge ho he hb hk => intro hj; subst hk; exact h _ _ hj ho _ he hb
  | step ho he hb hl hp ih => intro hj; subst hl; exact ih (h _ _ hj ho _ he hb)
theorem pre_ready {listed : Array Bool} (h : Closed ops listed) {k i : Nat} (hi : i ∈ Region.ready .any ops listed) (hp : Pre ops k i) : listed.getD k false = true := by
  obtain ⟨_, _, o, ho, hr⟩ := mem_ready.1 hi
  cases hp with
  | edge ho' he hb hk => rw [ho] at ho'; cases ho'; subst hk; exact hr _ he hb
  | step ho' he hb hl hp => rw [ho] at ho'; cases ho'; subst hl; exact h.pre hp (hr _ he hb)

theorem getD_set {listed : Array Bool} {i j : Nat} {d : Bool} (hi : i < listed.size) : (listed.setIfInBounds i true).getD j d = if j = i then true else listed.getD j d := by
  simp only [Array.getD_eq_getD_getElem?]
  by_cases e : j = i
  · subst e; simp [hi]
  · rw [if_neg e, Array.getElem?_setIfInBounds_ne (Ne.symm e)]

theorem run_any (hm : textOk ops = true) (hQ : ∀ a w, ST C s' a w → Q .normal a w) (hd : dstOk C.n ops = true) : ∀ (fuel : Nat) (listed : Array Bool) (r : List FP) (s : AS) (a : Act) (w : World), ST C s a w → listed.size = ops.size →
    r.map (·.i) = (List.range ops.size).filter (fun i => !listed.getD i true) → r.length ≤ fuel → Closed ops listed → Run E ops r s s' → chkP ops (masks ops.toList) r = true → (∀ x ∈ r, ∀ d ∈ x.F, s.noId d) →
    wpAny E.P .any ops Q fuel listed a w := by
  intro fuel
  have hnil : ∀ (listed : Array Bool) (r : List FP), listed.size = ops.size → r.map (·.i) = (List.range ops.size).filter (fun i => !listed.getD i true) → Region.ready .any ops listed = [] → r = [] := by
    intro listed r hsz hr hready
    cases r with
    | nil => rfl
    | cons x r =>
      exfalso
      have hx : x.i ∈ (List.range ops.size).filter (fun i => !listed.getD i true) := by rw [← hr]; simp
      rw [List.mem_filter] at hx
      have hlt : x.i < ops.size := by simpa using hx.1
      have : x.i ∈ Region.ready .any ops listed := by
        refine mem_ready.2 ⟨hlt, by simpa using hx.2, ops[x.i], by simp [hlt], fun e he hb => ?_⟩
        have helt := textOk_spec hm (show ops[x.i]? = some ops[x.i] by simp [hlt]) he hb
        cases hle : listed.getD e.on true with
        | true =>
          simp only [Array.getD_eq_getD_getElem?] at hle ⊢
          have hlt2 : e.on < listed.size := by omega
          simp only [hlt2, Array.getElem?_eq_getElem, Option.getD_some] at hle ⊢; exact hle
        | false =>
          exfalso
          have hmem : e.on ∈ (List.range ops.size).filter (fun i => !listed.getD i true) := by
            rw [List.mem_filter]; exact ⟨by simp; omega, by simp [hle]⟩
          have hsorted : ((List.range ops.size).filter (fun i => !listed.getD i true)).Pairwise (· < ·) := List.Pairwise.filter _ List.pairwise_lt_range
          rw [← hr] at hmem hsorted
          rw [List.map_cons] at hmem hsorted
          rcases List.mem_cons.1 hmem with h | h
          · omega
          · have := (List.pairwise_cons.1 hsorted).1 _ h; omega
      rw [hready] at this; simp at this
  induction fuel with
  | zero =>
    intro listed r s a w hs hsz hr hf hcl hrun hchk hn
    have hr0 : r = [] := List.eq_nil_of_length_eq_zero (by omega)
    subst hr0
    cases hrun
    refine ⟨?_, hQ a w hs⟩
    cases hready : Region.ready .any ops listed with
    | nil => rfl
    | cons i _ =>
      exfalso
      have hi : i ∈ Region.ready .any ops listed := by rw [hready]; simp
      obtain ⟨hlt, hl, _⟩ := mem_ready.1 hi
      have : i ∈ (List.range ops.size).filter (fun i => !listed.getD i true) := by
        rw [List.mem_filter]; exact ⟨by simpa using hlt, by simp [hl]⟩
      rw [← hr] at this; simp at this
  | succ fuel ih =>
    intro listed r s a w hs hsz hr hf hcl hrun hchk hn
    refine ⟨fun hready => ?_, fun i hi => ?_⟩
    · have := hnil listed r hsz hr hready
      subst this
      cases hrun; exact hQ a w hs
    · obtain ⟨hlt, hl, _⟩ := mem_ready.1 hi
      have himem : i ∈ r.map (·.i) := by rw [hr, List.mem_filter]; exact ⟨by simpa using hlt, by simp [hl]⟩
      obtain ⟨x, hx, rfl⟩ := List.mem_map.1 himem
      obtain ⟨p, q, rfl⟩ := List.append_of_mem hx
      obtain ⟨h1, h2, h3, h4⟩ := chkP_append p hchk
      have hunl : ∀ y ∈ p ++ x :: q, listed.getD y.i true = false := by
        intro y hy
        have : y.i ∈ (p ++ x :: q).map (·.i) := List.mem_map.2 ⟨y, hy, rfl⟩
        rw [hr, List.mem_filter] at this
        simpa using this.2
      have hind : ∀ y ∈ p, indep ops y x = true := by
        intro y hy
        have := h1 y hy
        rw [Bool.or_eq_true] at this
        rcases this with hb | hb
        · have hly := pre_ready hcl hi (masks_spec ops x.i y.i hb)
          have hly' := hunl y (by simp [hy])
          simp only [Array.getD_eq_getD_getElem?] at hly hly'
          cases hq : listed[y.i]? with
          | none => rw [hq] at hly; simp at hly
          | some b => rw [hq] at hly hly'; simp at hly hly'; rw [hly] at hly'; cases hly'
        · exact hb
      obtain ⟨o, v, mw, ho, hstep, hw, hrest⟩ := front p s hind hrun
      obtain ⟨ρ, hs⟩ := hs
      refine hstep.wp hs ho (dstOk_spec hd ho) (hn x hx) fun a' w' hs' => ih _ (p ++ q) _ a' w' hs' (by simpa using hsz) ?_ (by simp at hf ⊢; omega) ?_ hrest h4 ?_
      · have hnd : ((List.range ops.size).filter (fun i => !listed.getD i true)).Pairwise (· < ·) := List.Pairwise.filter _ List.pairwise_lt_range
        rw [← hr, List.map_append, List.map_cons] at hnd
        have he : (List.range ops.size).filter (fun j => !(listed.setIfInBounds x.i true).getD j true) = ((List.range ops.size).filter (fun i => !listed.getD i true)).filter (fun j => !(j == x.i)) := by
          rw [List.filter_filter]
          apply List.filter_congr
          intro j _
          rw [getD_set (by rw [hsz]; exact hlt)]
          by_cases e : j = x.i
          · simp [e]
          · simp [e]
        rw [he, ← hr]
        simp only [List.map_append, List.map_cons, List.filter_append, List.filter_cons]
        rw [List.pairwise_append] at hnd
        have hp : ∀ j ∈ p.map (·.i), (!(j == x.i)) = true := by
          intro j hj
          have := hnd.2.2 j hj x.i (by simp)
          have : j ≠ x.i := by omega
          simpa using this
        have hq : ∀ j ∈ q.map (·.i), (!(j == x.i)) = true := by
          intro j hj
          have := (List.pairwise_cons.1 hnd.2.1).1 j hj
          have : j ≠ x.i := by omega
          simpa using this
        rw [List.filter_eq_self.2 hp, List.filter_eq_self.2 hq]
        simp
      · intro j oj hj hoj e he hb
        rw [getD_set (by rw [hsz]; exact hlt)] at hj ⊢
        split
        · rfl
        · by_cases ej : j = x.i
          · subst ej
            obtain ⟨_, _, o', ho', hr'⟩ := mem_ready.1 hi
            rw [hoj] at ho'; cases ho'
            exact hr' e he hb
          · rw [if_neg ej] at hj; exact hcl j oj hj hoj e he hb
      · intro y hy d hdy
        have hyr : y ∈ p ++ x :: q := by simp at hy ⊢; rcases hy with h | h <;> simp [h]
        refine hstep.noId (hn y hyr d hdy) ?_
        rcases List.mem_append.1 hy with hy | hy
        · intro hdx; exact disj_not (h2 y hy) hdx hdy
        · exact disj_not (h3 y hy) hdy
end
end Go.AM
