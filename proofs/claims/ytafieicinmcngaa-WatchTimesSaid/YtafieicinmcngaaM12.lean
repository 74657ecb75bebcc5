/- The abstract machine, part 12: slices that are written out, or made; all value operations in one law. It speaks of whatever program. -/
import Derived.Test.YtafieicinmcngaaM11
import Derived.Laws.MakeOwn
namespace Go.AM
open Go Go.RowKit
set_option linter.unusedVariables false
set_option linter.unusedSimpArgs false

section
variable {E : Env} {C : Ctx} {s : AS} {ρ : Nat → Value} {a : Act} {w : World} {K : Act → World → Prop} {Q : Exit → Act → World → Prop}

theorem Rep.cells {L : Nat → Prop} {u : Value} {x : CV} (h : Rep w L u x) (hp : x.plain = true) : u.cells.size = x.cells.length ∧ ∀ (j : Nat) (y : CV), x.cells[j]? = some y → Rep w L (u.cells.getD j undef) y := by
  have single : ∀ {u : Value} {x : CV}, Rep w L u x → u.cells = #[u] → x.cells = [x] → u.cells.size = x.cells.length ∧ ∀ (j : Nat) (y : CV), x.cells[j]? = some y → Rep w L (u.cells.getD j undef) y := by
    intro u x hr h1 h2
    rw [h1, h2]
    refine ⟨rfl, fun j y hy => ?_⟩
    cases j with
    | zero => simp at hy; subst hy; exact hr
    | succ j => simp at hy
  cases h with
  | v u => exact single (.v u) (by cases u <;> simp_all [Value.cells, CV.plain]) rfl
  | fl hh => exact single (.fl hh) rfl rfl
  | sl g hn hcap hmax hsz ha hlen hx => exact single (.sl g hn hcap hmax hsz ha hlen hx) rfl rfl
  | ad g hb h0 ha hx => exact single (.ad g hb h0 ha hx) rfl rfl
  | fn hn hx => exact single (.fn hn hx) rfl rfl
  | agg hn hx => exact ⟨by simpa [Value.cells, CV.cells] using hn, fun j y hy => by simpa [Value.cells, Array.getD_eq_getD_getElem?, List.getD] using hx j y hy⟩

theorem LL_alloc (h : STr C s ρ a w) : ¬ LL C s.m ρ w.heap.size := fun hb => absurd (h.live_lt hb) (Nat.lt_irrefl _)

theorem wp_bslice (h : STr C s ρ a w) {t : TypeId} {e sz : Nat} {parts : Array (Nat × Operand)} {xs : List CV} {d de : TD} (ht : E.Ty t = some d) (hd : d.desc = .slice e) (he : E.Ty e = some de) (hs : de.sz = sz) (h0 : Nat.beq sz 0 = false)
    (hi : parts.toList.map (·.1) = List.range xs.length) (hx : ToCs (parts.toList.map fun p => s.ev p.2) xs) (hl : ∀ x ∈ xs, x.cells.length = sz ∧ x.plain = true) (hb : xs.length * sz ≤ 16777216)
    {o : Oper} (ho : o.op = .buildSlice t xs.length parts) (hK : ∀ u w', Keep (fun _ => False) w w' → RepA w' (LL C s.m ρ) ρ s.m u (.c (.sl sz xs)) → K (a.put o.dst u) w') : o.wp E.P a w K Q := by
  have h0' : 0 < sz := by
    rcases Nat.eq_zero_or_pos sz with e | e
    · rw [e] at h0; cases h0
    · exact e
  have hu := Env.und ht; rw [hd] at hu
  obtain ⟨z, hz, hzc⟩ := Env.zero he w
  have hplen : parts.size = xs.length := by have := congrArg List.length hi; simpa using this
  -- the parts' values
  have hrep : ∀ (j : Nat) (x : CV), xs[j]? = some x → ∀ p, parts.toList[j]? = some p → Rep w (LL C s.m ρ) (a.eval p.2) x := by
    intro j x hxj p hp
    exact (hx.2 j (s.ev p.2) x (by rw [List.getElem?_map, hp]; rfl) hxj).rep (ρ := ρ) (m := s.m) _ (h.evR _)
  have hvs : parts.map (fun p => (p.1, a.eval p.2)) = ⟨((parts.toList.map fun p => a.eval p.2).zipIdx 0).map fun p => (p.2, p.1)⟩ := by
    apply Array.ext'
    simp only [Array.toList_map]
    apply List.ext_getElem?
    intro j
    simp only [List.getElem?_map, List.getElem?_zipIdx, Nat.zero_add]
    cases hp : parts.toList[j]? with
    | none => rfl
    | some p =>
      have hj : (parts.toList.map (·.1))[j]? = some p.1 := by rw [List.getElem?_map, hp]; rfl
      rw [hi] at hj
      have : j = p.1 := by
        have := List.getElem?_eq_some_iff.1 hj
        obtain ⟨h1, h2⟩ := this
        simpa using h2
      simp [this]
  have hcs : ∀ u ∈ (parts.toList.map fun p => a.eval p.2), u.cells.size = sz := by
    intro u hu
    obtain ⟨p, hp, rfl⟩ := List.mem_map.1 hu
    obtain ⟨j, hj⟩ := List.mem_iff_getElem?.1 hp
    have hjl : j < xs.length := by rw [← hplen]; simpa using (List.getElem?_eq_some_iff.1 hj).1
    have hxj := List.getElem?_eq_getElem hjl
    have := (hrep j _ hxj p hj).cells (hl _ (List.getElem_mem hjl)).2
    rw [this.1]; exact (hl _ (List.getElem_mem hjl)).1
  have hzs : z.cells.size = sz ∨ True := .inr trivial
  obtain ⟨out, hfill, hos, _, hnew⟩ := fill_slice sz h0' (parts.toList.map fun p => a.eval p.2) 0 xs.length ((Array.range (xs.length * sz)).map (z.cells[· % z.cells.size]!)) (by simp) (by simp [hplen]) hcs
  by_cases hx0 : xs.length = 0
  · have hxs : xs = [] := List.eq_nil_of_length_eq_zero hx0
    subst hxs
    have hpe : parts = #[] := by have : parts.size = 0 := by simpa using hplen
                                 exact Array.eq_empty_of_size_eq_zero this
    subst hpe
    refine wp_val (u := .slice (some ⟨w.heap.size, 0, none⟩) 0 0) (w' := w.alloc (.cells #[] e)) ?_ (hK _ _ (Keep.alloc _ _ _) (.c (Rep.sl_mk rfl (Nat.le_refl _) (by simp [maxLen]) h0' (fun h => absurd h (by simp)) (fun i x hx => by simp at hx))))
    have e0 : ∀ f : Nat → Value, (Array.range 0).map f = #[] := fun f => by simp
    simp [execOp, ho, Instr.buildSlice, run_underlying hu, Env.size he, Instr.fill, newRow, e0]
  · have hne : ¬ xs.length * sz = 0 := by
      intro hh; rcases Nat.mul_eq_zero.1 hh with h1 | h1 <;> omega
    have hrun : (execOp a.eval o).run E.P w = .ok (.value (.slice (some ⟨w.heap.size, 0, none⟩) xs.length xs.length)) (w.alloc (.cells out e)) := by
      have hgt : ¬ xs.length * sz > 2 ^ 24 := by omega
      have hfill' : Instr.fill (fun i => some (i * sz, sz)) ((Array.range (xs.length * sz)).map (z.cells[· % z.cells.size]!)) (parts.map (fun p => (p.1, a.eval p.2))).toList = some out := by rw [hvs]; exact hfill
      simp only [execOp, ho, Instr.buildSlice, Sem.run_bind, run_underlying hu, Result.andThen_ok, Env.size he, hs, if_neg hgt, if_neg hne, hz, Sem.run_pure]
      rw [hfill']
      simp [newRow]
    refine wp_val hrun (hK _ _ (Keep.alloc _ _ _) (.c (Rep.sl_mk rfl (Nat.le_refl _) ?_ h0' (fun _ => ⟨w.heap.size, 0, rfl, LL_alloc h, fun i x hxi j y hy => ?_⟩) fun i x hxi => (hl x (List.mem_of_getElem? hxi)).1)))
    · have : xs.length * 1 ≤ xs.length * sz := Nat.mul_le_mul_left _ h0'
      simp only [maxLen]; omega
    · have hil : i < parts.toList.length := by simp [hplen]; exact (List.getElem?_eq_some_iff.1 hxi).1
      have hp := List.getElem?_eq_getElem hil
      have hr := (hrep i x hxi _ hp).cells (hl x (List.mem_of_getElem? hxi)).2
      have hjs : j < sz := by rw [← (hl x (List.mem_of_getElem? hxi)).1]; exact (List.getElem?_eq_some_iff.1 hy).1
      have hcell := hnew i _ (by rw [List.getElem?_map, hp]; rfl) j hjs
      refine ⟨((a.eval (parts.toList[i]).2).cells.getD j undef), ?_, (hr.2 j y hy).keep (fun _ h _ => h) (fun b _ hb => Below.heap_alloc w _ b hb)⟩
      rw [World.cell?_alloc_new]
      rw [show 0 + (i * sz + j) = (0 + i) * sz + j by simp, hcell]
      have hjc : j < (a.eval (parts.toList[i]).2).cells.size := by rw [hr.1]; exact (List.getElem?_eq_some_iff.1 hy).1
      simp only [Array.getD_eq_getD_getElem?, Array.getElem?_eq_getElem hjc, Option.getD_some]

theorem wp_mkslice (h : STr C s ρ a w) {t : TypeId} {x y : Operand} {e : Nat} {k k' : IntKind} {n : Nat} {d de : TD} {z : Value} (hx : s.ev x = .c (.v (.int k n))) (hy : s.ev y = .c (.v (.int k' n))) (ht : E.Ty t = some d) (hd : d.desc = .slice e) (he : E.Ty e = some de)
    (hz : de.zero = [z]) (hs : de.sz = 1) (hb : n * de.bytes ≤ 140737488355328) (hn : n ≤ 140737488355328) {o : Oper} (ho : o.op = .makeSlice t x y)
    (hK : ∀ u w', Keep (fun _ => False) w w' → RepA w' (LL C s.m ρ) ρ s.m u (.c (.sl 1 (List.replicate n (.v z)))) → K (a.put o.dst u) w') : o.wp E.P a w K Q := by
  have hu := Env.und ht; rw [hd] at hu
  obtain ⟨hue, i, hi, his, hib, z', hz', hzc⟩ := E.ok e de he
  have hz1 : z'.cells = #[z] := by apply Array.ext'; rw [hzc, hz]
  have hbb : (i.bytes : Int) * (n : Int) ≤ 281474976710656 := by
    rw [hib]
    have hc : ((de.bytes * n : Nat) : Int) = (de.bytes : Int) * (n : Int) := by simp
    rw [← hc, Nat.mul_comm]; omega
  have hrun := run_make (P := E.P) w t e i z' hu hi hz' k k' n n (by omega) (Int.le_refl _) hbb (by omega)
  rw [his, hs, hz1] at hrun
  simp only [Int.toNat_natCast, Nat.mul_one] at hrun
  refine wp_val (u := .slice (some ⟨w.heap.size, 0, none⟩) n n) (w' := w.alloc (.cells (madeCells #[z] n) e)) (by simp [execOp, ho, ev_int h hx, ev_int h hy, hrun]) (hK _ _ (Keep.alloc _ _ _) (.c (Rep.sl_mk (by simp) (Nat.le_refl _) (by simp only [maxLen]; omega) (by omega) (fun _ => ⟨w.heap.size, 0, rfl, LL_alloc h, fun i x hxi j y hy => ?_⟩) fun i x hxi => ?_)))
  · obtain ⟨hin, hxe⟩ := List.getElem?_eq_some_iff.1 hxi
    simp at hxe hin; subst hxe
    have hj0 : j = 0 := by have := (List.getElem?_eq_some_iff.1 hy).1; simp [CV.cells] at this; omega
    subst hj0
    simp [CV.cells] at hy; subst hy
    refine ⟨z, ?_, .v z⟩
    rw [World.cell?_alloc_new]
    simp [madeCells, hin, Nat.mod_one]
  · obtain ⟨hin, hxe⟩ := List.getElem?_eq_some_iff.1 hxi
    simp at hxe; subst hxe; rfl

/-- ALL VALUE OPERATIONS. -/
theorem StepV.wp (h : STr C s ρ a w) {op : Op} {v : AV} {R : List Nat} (hs : StepV E s.m s.ev op v R) {o : Oper} (ho : o.op = op)
    (hK : ∀ u w', Keep (fun _ => False) w w' → RepA w' (LL C s.m ρ) ρ s.m u v → K (a.put o.dst u) w') : o.wp E.P a w K Q := by
  have hk : ∀ u, RepA w (LL C s.m ρ) ρ s.m u v → K (a.put o.dst u) w := fun u hu => hK u w (Keep.refl _ w) hu
  cases op with
  | move x => exact hs.wp_plain h ho (.inl ⟨_, rfl⟩) hK
  | assign x => exact hs.wp_plain h ho (.inr (.inl ⟨_, rfl⟩)) hK
  | pick c x y => exact hs.wp_plain h ho (.inr (.inr (.inl ⟨_, _, _, rfl⟩))) hK
  | index t x i => exact hs.wp_plain h ho (.inr (.inr (.inr (.inl ⟨_, _, _, rfl⟩)))) hK
  | binOp b t x y u => exact hs.wp_plain h ho (.inr (.inr (.inr (.inr (.inl ⟨_, _, _, _, _, rfl⟩))))) hK
  | unOp b t x => exact hs.wp_plain h ho (.inr (.inr (.inr (.inr (.inr (.inl ⟨_, _, _, rfl⟩)))))) hK
  | convert t u x => exact hs.wp_plain h ho (.inr (.inr (.inr (.inr (.inr (.inr (.inl ⟨_, _, _, rfl⟩))))))) hK
  | extract x j => exact hs.wp_plain h ho (.inr (.inr (.inr (.inr (.inr (.inr (.inr (.inl ⟨_, _, rfl⟩)))))))) hK
  | makeFunc f x y => exact hs.wp_plain h ho (.inr (.inr (.inr (.inr (.inr (.inr (.inr (.inr (.inl ⟨_, _, _, rfl⟩))))))))) hK
  | load t x => exact hs.wp_mem h ho (.inl ⟨_, _, rfl⟩) hk
  | fieldAddr t x f => exact hs.wp_mem h ho (.inr (.inl ⟨_, _, _, rfl⟩)) hk
  | indexAddr t x i => exact hs.wp_mem h ho (.inr (.inr ⟨_, _, _, rfl⟩)) hk
  | box t x =>
    cases hs with
    | boxC hx hp h0 =>
      rename_i y
      have hr := (hx.rep (ρ := ρ) (m := s.m) _ (h.evR x)).cells hp
      refine wp_val (u := .pointer (some ⟨w.heap.size, 0, none⟩)) (w' := w.alloc (.cells (a.eval x).cells t)) (by simp [execOp, ho, Instr.box, newVar, newRow]) (hK _ _ (Keep.alloc _ _ _) (.c (.ad (fun j => (a.eval x).cells.getD j undef) (LL_alloc h) h0 (fun j hj => ?_) fun j q hq => ?_)))
      · rw [World.cell?_alloc_new, Nat.zero_add]
        have hjc : j < (a.eval x).cells.size := by rw [hr.1]; exact hj
        simp only [Array.getD_eq_getD_getElem?, Array.getElem?_eq_getElem hjc, Option.getD_some]
      · exact (hr.2 j q hq).keep (fun _ h _ => h) (fun b _ hb => Below.heap_alloc w _ b hb)
  | build t parts =>
    cases hs with
    | build ht hd ha hf => exact StepV.wp_build h ht hd ha hf ho hk
  | slice t x lo hi mx =>
    cases hs with
    | slc hx ht hd he hs' hlo hhi hlh hh => exact StepV.wp_slc h hx ht hd he hs' hlo hhi hlh hh ho hk
  | buildSlice t n parts =>
    cases hs with
    | bslice ht hd he hs' h0 hi hx hl hb => exact wp_bslice h ht hd he hs' h0 hi hx hl hb ho hK
  | makeSlice t x y =>
    cases hs with
    | mkslice hx hy ht hd he hz hs' hb hn => exact wp_mkslice h hx hy ht hd he hz hs' hb hn ho hK
  | call c =>
    obtain ⟨callee, args, ats⟩ := c
    cases callee with
    | builtin b =>
      cases hs with
      | lenC hx ht hd => exact (StepV.lenC hx ht hd).wp_plain h ho (.inr (.inr (.inr (.inr (.inr (.inr (.inr (.inr (.inr ⟨_, _, rfl⟩))))))))) hK
      | lenV hx ht hd => exact (StepV.lenV hx ht hd).wp_plain h ho (.inr (.inr (.inr (.inr (.inr (.inr (.inr (.inr (.inr ⟨_, _, rfl⟩))))))))) hK
      | lenM hx hm hn ht hd => exact (StepV.lenM hx hm hn ht hd).wp_plain h ho (.inr (.inr (.inr (.inr (.inr (.inr (.inr (.inr (.inr ⟨_, _, rfl⟩))))))))) hK
      | lenS hx ht hd => exact (StepV.lenS hx ht hd).wp_plain h ho (.inr (.inr (.inr (.inr (.inr (.inr (.inr (.inr (.inr ⟨_, _, rfl⟩))))))))) hK
    | value f =>
      cases hs with
      | callP hc hx ha hp => exact StepV.wp_call h hc hx ha hp ho hK
      | callF hc hx ha hp => exact StepV.wp_callF h hc hx ha hp ho hK
      | callX hc hx ha hp => exact StepV.wp_callX h hc hx ha hp ho hk
      | callB hc hx hp hs => exact StepV.wp_callB h hc hx hp hs ho hK
    | invoke r m => cases hs
  | _ => cases hs
end
end Go.AM
