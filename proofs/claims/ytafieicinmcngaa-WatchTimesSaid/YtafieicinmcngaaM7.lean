/- The abstract machine, part 7: the model does what part 6 says. It speaks of whatever program. -/
import Derived.Test.YtafieicinmcngaaM6
namespace Go.AM
open Go Go.RowKit
set_option linter.unusedVariables false
set_option linter.unusedSimpArgs false

section
variable {E : Env} {C : Ctx} {s : AS} {ρ : Nat → Value} {a : Act} {w : World}

theorem Env.und {t : Nat} {d : TD} (h : E.Ty t = some d) : E.P.underlying t = some d.desc := (E.ok t d h).1
theorem Env.size {t : Nat} {d : TD} (h : E.Ty t = some d) (w : World) : (sizeOf t).run E.P w = .ok d.sz w := by
  obtain ⟨_, i, hi, hs, _⟩ := E.ok t d h
  simp [sizeOf, typeInfo, hi, hs]
theorem Env.agg {t : Nat} {d : TD} (h : E.Ty t = some d) (w : World) : (isAgg t).run E.P w = .ok (aggD d.desc) w := by
  unfold isAgg
  simp only [Sem.run_bind, run_underlying (Env.und h), Result.andThen_ok]
  cases d.desc <;> rfl
theorem Env.zero {t : Nat} {d : TD} (h : E.Ty t = some d) (w : World) : ∃ z, (zeroValue t).run E.P w = .ok z w ∧ z.cells.toList = d.zero := by
  obtain ⟨_, i, hi, _, _, z, hz, hc⟩ := E.ok t d h
  exact ⟨z, by simp [zeroValue, typeInfo, hi, hz], hc⟩

theorem STr.evR (h : STr C s ρ a w) (x : Operand) : RepA w (LL C s.m ρ) ρ s.m (a.eval x) (s.ev x) := by
  cases x with
  | tmp t => exact h.tmp t
  | const v => exact .c (.v v)
  | global g => exact .any _
  | func f => exact .c (.v _)

theorem add_lit' (b o n : Nat) : (⟨b, o, none⟩ : Addr).add n = ⟨b, o + n, none⟩ := by unfold Addr.add; split <;> simp_all

/-- A scalar is loaded. -/
theorem run_loadS {t : Nat} {d : TD} (ht : E.Ty t = some d) (hd : aggD d.desc = false) (w : World) (b o : Nat) (v : Value) (hc : w.cell? ⟨b, o, none⟩ = some v) :
    (Instr.loadAt t (.pointer (some ⟨b, o, none⟩))).run E.P w = .ok v w := by
  simp [Instr.loadAt, Instr.sureAddr, loadVar, Env.agg ht, hd, hc]
theorem run_loadAg {t : Nat} {d : TD} (ht : E.Ty t = some d) (hd : aggD d.desc = true) (w : World) (b o : Nat) (vs : List Value) (hl : vs.length = d.sz)
    (hc : ∀ (j : Nat) (v : Value), vs[j]? = some v → w.cell? ⟨b, o + j, none⟩ = some v) :
    (Instr.loadAt t (.pointer (some ⟨b, o, none⟩))).run E.P w = .ok (.agg ⟨vs⟩) w := by
  have := run_loadCells_list (P := E.P) w ⟨b, o, none⟩ vs (fun j v hj => by rw [add_lit']; exact hc j v hj)
  rw [hl] at this
  simp [Instr.loadAt, Instr.sureAddr, loadVar, Env.agg ht, hd, Env.size ht, this]

theorem run_fieldAt' {t : Nat} {d fd : TD} {fs : Array Field} {fld : Field} {f : Nat} (ht : E.Ty t = some d) (hd : d.desc = .struct fs) (hf : fs[f]? = some fld) (h2 : E.Ty fld.type = some fd)
    (h0 : Nat.beq fd.sz 0 = false) (w : World) (b o : Nat) : (Instr.fieldAt t (.pointer (some ⟨b, o, none⟩)) f).run E.P w = .ok (.pointer (some ⟨b, o + fld.offset, none⟩)) w := by
  have h0' : ¬ fd.sz = 0 := fun e => by rw [e] at h0; cases h0
  have hu := Env.und ht; rw [hd] at hu
  simp [Instr.fieldAt, run_underlying hu, hf, Instr.sureAddr, fieldPlace, Env.size h2, h0', add_lit']

theorem run_indexAt' {t e : Nat} {d de : TD} (ht : E.Ty t = some d) (hd : d.desc = .slice e) (he : E.Ty e = some de) (w : World) (b o len cap : Nat) (k : IntKind) (n : Int) (h0 : 0 ≤ n) (hlt : n < len) :
    (Instr.indexAt t (.slice (some ⟨b, o, none⟩) len cap) (.int k n)).run E.P w = .ok (.pointer (some ⟨b, o + n.toNat * de.sz, none⟩)) w := by
  have hu := Env.und ht; rw [hd] at hu
  simp [Instr.indexAt, run_underlying hu, asIntOf, h0, hlt, Env.size he, add_lit']

theorem getD_some {l : List Value} {j : Nat} {v : Value} (h : l[j]? = some v) : l.getD j undef = v := by simp [List.getD, h]

/-! the reading of content -/
theorem Rep.ad_inv {L : Nat → Prop} {v : Value} {cs : List CV} (h : Rep w L v (.ad cs)) : ∃ b o, v = .pointer (some ⟨b, o, none⟩) ∧ ¬ L b ∧ 0 < cs.length ∧
    ∀ (j : Nat) (y : CV), cs[j]? = some y → ∃ u, w.cell? ⟨b, o + j, none⟩ = some u ∧ Rep w L u y := by
  cases h with
  | ad g hb h0 ha hx => exact ⟨_, _, rfl, hb, h0, fun j y hy => ⟨g j, ha j (List.getElem?_eq_some_iff.1 hy).1, hx j y hy⟩⟩
theorem Rep.ad_mk {L : Nat → Prop} {b o : Nat} {cs : List CV} (hb : ¬ L b) (h0 : 0 < cs.length) (hx : ∀ (j : Nat) (y : CV), cs[j]? = some y → ∃ u, w.cell? ⟨b, o + j, none⟩ = some u ∧ Rep w L u y) :
    Rep w L (.pointer (some ⟨b, o, none⟩)) (.ad cs) := by
  refine .ad (fun j => (w.cell? ⟨b, o + j, none⟩).getD undef) hb h0 (fun j hj => ?_) fun j y hy => ?_
  · obtain ⟨u, hu, _⟩ := hx j _ (List.getElem?_eq_getElem hj)
    rw [hu]; rfl
  · obtain ⟨u, hu, hr⟩ := hx j y hy
    rw [hu]; exact hr
theorem Rep.sl_inv {L : Nat → Prop} {v : Value} {sz : Nat} {xs : List CV} (h : Rep w L v (.sl sz xs)) : ∃ a cap, v = .slice a xs.length cap ∧ xs.length ≤ cap ∧ cap ≤ maxLen ∧ 0 < sz ∧
    (0 < xs.length → ∃ b o, a = some ⟨b, o, none⟩ ∧ ¬ L b ∧ ∀ (i : Nat) (x : CV), xs[i]? = some x → ∀ (j : Nat) (y : CV), x.cells[j]? = some y → ∃ u, w.cell? ⟨b, o + (i * sz + j), none⟩ = some u ∧ Rep w L u y) ∧
    ∀ (i : Nat) (x : CV), xs[i]? = some x → x.cells.length = sz := by
  cases h with
  | sl g hn hcap hmax hsz ha hlen hx =>
    subst hn
    refine ⟨_, _, rfl, hcap, hmax, hsz, fun h0 => ?_, hlen⟩
    obtain ⟨b, o, rfl, hb, hc⟩ := ha h0
    refine ⟨b, o, rfl, hb, fun i x hi j y hj => ⟨g i j, hc i (List.getElem?_eq_some_iff.1 hi).1 j ?_, hx i x hi j y hj⟩⟩
    have := (List.getElem?_eq_some_iff.1 hj).1
    rw [hlen i x hi] at this; exact this
theorem Rep.sl_mk {L : Nat → Prop} {a : Option Addr} {n cap sz : Nat} {xs : List CV} (hn : n = xs.length) (hcap : n ≤ cap) (hmax : cap ≤ maxLen) (hsz : 0 < sz)
    (hx : 0 < xs.length → ∃ b o, a = some ⟨b, o, none⟩ ∧ ¬ L b ∧ ∀ (i : Nat) (x : CV), xs[i]? = some x → ∀ (j : Nat) (y : CV), x.cells[j]? = some y → ∃ u, w.cell? ⟨b, o + (i * sz + j), none⟩ = some u ∧ Rep w L u y)
    (hlen : ∀ (i : Nat) (x : CV), xs[i]? = some x → x.cells.length = sz) : Rep w L (.slice a n cap) (.sl sz xs) := by
  refine .sl (fun i j => match a with | some a => (w.cell? ⟨a.block, a.off + (i * sz + j), none⟩).getD undef | none => undef) hn hcap hmax hsz (fun h0 => ?_) hlen fun i x hi j y hj => ?_
  · obtain ⟨b, o, rfl, hb, hc⟩ := hx (hn ▸ h0)
    refine ⟨b, o, rfl, hb, fun i hi j hj => ?_⟩
    have hix : xs[i]? = some (xs[i]'(hn ▸ hi)) := List.getElem?_eq_getElem (hn ▸ hi)
    have hjl : j < (xs[i]'(hn ▸ hi)).cells.length := by rw [hlen i _ hix]; exact hj
    obtain ⟨u, hu, _⟩ := hc i _ hix j _ (List.getElem?_eq_getElem hjl)
    show _ = some ((w.cell? ⟨b, o + (i * sz + j), none⟩).getD undef)
    rw [hu]; rfl
  · obtain ⟨b, o, rfl, hb, hc⟩ := hx (by have := (List.getElem?_eq_some_iff.1 hi).1; omega)
    obtain ⟨u, hu, hr⟩ := hc i x hi j y hj
    show Rep w L ((w.cell? ⟨b, o + (i * sz + j), none⟩).getD undef) y
    rw [hu]; exact hr

theorem RepA.c_inv {L : Nat → Prop} {m : Nat → Option Ob} {v : Value} {x : CV} (h : RepA w L ρ m v (.c x)) : Rep w L v x := by cases h with | c h => exact h
theorem Rep.v_inv {L : Nat → Prop} {v u : Value} (h : Rep w L v (.v u)) : v = u := by cases h; rfl
theorem RepA.v_inv {L : Nat → Prop} {m : Nat → Option Ob} {v u : Value} (h : RepA w L ρ m v (.c (.v u))) : v = u := h.c_inv.v_inv

theorem RepA.loc_inv {L : Nat → Prop} {m : Nat → Option Ob} {v : Value} {i off : Nat} (h : RepA w L ρ m v (.loc i off)) :
    ∀ cells, m i = some (.box cells) → ∃ b, ρ i = .pointer (some ⟨b, 0, none⟩) ∧ v = .pointer (some ⟨b, off, none⟩) := by cases h with | loc h => exact h
theorem RepA.ms_inv {L : Nat → Prop} {m : Nat → Option Ob} {v : Value} {i n : Nat} (h : RepA w L ρ m v (.ms i n)) :
    ∀ sz e xs, m i = some (.arr sz e xs) → n ≤ xs.length ∧ (xs.length = n → v = ρ i) := by cases h with | ms h => exact h
theorem RepA.el_inv {L : Nat → Prop} {m : Nat → Option Ob} {v : Value} {i n sz k off : Nat} (h : RepA w L ρ m v (.el i n sz k off)) :
    ∀ sz' e xs, m i = some (.arr sz' e xs) → n ≤ xs.length ∧ (xs.length = n → sz' = sz ∧ ∃ b cap, ρ i = .slice (some ⟨b, 0, none⟩) n cap ∧ v = .pointer (some ⟨b, k * sz + off, none⟩)) := by cases h with | el h => exact h
theorem RepA.tup_inv {L : Nat → Prop} {m : Nat → Option Ob} {v : Value} {xs : List AV} (h : RepA w L ρ m v (.tup xs)) :
    ∃ vs, v = .tuple ⟨vs⟩ ∧ vs.length = xs.length ∧ ∀ (j : Nat) (y : AV), xs[j]? = some y → RepA w L ρ m (vs.getD j undef) y := by cases h with | tup hn hx => exact ⟨_, rfl, hn, hx⟩

theorem One.sound (h : STr C s ρ a w) {v : Value} {x : AV} {R : List Nat} (hv : RepA w (LL C s.m ρ) ρ s.m v x) (ho : One s.m x R) : v.oneCell' = true := by
  cases ho with
  | v hu => rw [hv.v_inv]; exact hu
  | fl b => cases hv.c_inv; rfl
  | sl sz xs => obtain ⟨_, _, rfl, _⟩ := hv.c_inv.sl_inv; rfl
  | ad cs => obtain ⟨_, _, rfl, _⟩ := hv.c_inv.ad_inv; rfl
  | ms hm hn =>
    cases hv with
    | ms hh =>
      rw [(hh _ _ _ hm).2 hn]
      obtain ⟨_, vs, hown, _⟩ := h.obj _ _ hm
      rcases hown.2 with ⟨e, _⟩ | ⟨_, _, _, e, _⟩ <;> rw [e] <;> rfl
  | loc hm =>
    cases hv with
    | loc hh => obtain ⟨b, _, rfl⟩ := hh _ hm; rfl

theorem cells_one {v : Value} (h : v.oneCell' = true) : v.cells = #[v] := by cases v <;> simp_all [Value.cells, Value.oneCell']

theorem Cells.sound (h : STr C s ρ a w) {v : Value} {x : AV} {ys : List AV} {R : List Nat} (hv : RepA w (LL C s.m ρ) ρ s.m v x) (hc : Cells s.m x ys R) :
    v.cells.size = ys.length ∧ ∀ (j : Nat) (y : AV), ys[j]? = some y → RepA w (LL C s.m ρ) ρ s.m (v.cells.getD j undef) y := by
  cases hc with
  | agg xs =>
    cases hv with
    | agg hn hx => exact ⟨by simpa [Value.cells] using hn, fun j y hy => by simpa [Value.cells, Array.getD_eq_getD_getElem?, List.getD] using hx j y hy⟩
  | cagg cs =>
    cases hv.c_inv with
    | agg hn hx =>
      refine ⟨by simpa [Value.cells] using hn, fun j y hy => ?_⟩
      simp only [List.getElem?_map] at hy
      obtain ⟨z, hz, rfl⟩ := Option.map_eq_some_iff.1 hy
      exact .c (by simpa [Value.cells, Array.getD_eq_getD_getElem?, List.getD] using hx j z hz)
  | one ho =>
    have h1 := One.sound h hv ho
    rw [cells_one h1]
    refine ⟨rfl, fun j y hy => ?_⟩
    cases j with
    | zero => simp at hy; subst hy; exact hv
    | succ j => simp at hy

theorem AllOne.sound (h : STr C s ρ a w) {xs : List AV} {R : List Nat} (ho : AllOne s.m xs R) : ∀ {vs : List Value}, vs.length = xs.length → (∀ (j : Nat) (y : AV), xs[j]? = some y → RepA w (LL C s.m ρ) ρ s.m (vs.getD j undef) y) →
    ∀ v ∈ vs, v.oneCell' = true := by
  induction ho with
  | nil => intro vs hl _ v hv; simp at hl; subst hl; simp at hv
  | cons h1 hs ih =>
    intro vs hl hx v hv
    cases vs with
    | nil => simp at hv
    | cons u us =>
      rcases List.mem_cons.1 hv with rfl | hv
      · exact One.sound h (by simpa using hx 0 _ rfl) h1
      · exact ih (vs := us) (by simpa using hl) (fun j y hy => by simpa using hx (j + 1) y (by simpa using hy)) v hv
end
end Go.AM
