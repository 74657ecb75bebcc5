/- What comes in at a law's door, opened to what it reads as. It speaks of whatever program. -/
import Derived.Test.YtcmldokgjbmbdaaB3
import Derived.Deep.Fields
import Derived.ChangeArms
import Derived.Below
import Derived.Carry
namespace Go.AM
open Go Go.RowKit Go.ChangeShapes Go.WideShapes
set_option linter.unusedVariables false
set_option linter.unusedSimpArgs false

def L0 : Nat → Prop := fun _ => False
section
variable {H : Type} {enc : TypeId × Value → H} {P : Program} {w : World} {spare : Nat → Bool} {held : Bool}

theorem trod_float {fuel : Nat} {t : TypeId} {k : FloatKind} {cs : List Value} {x : DataW H × List MemPlace} (ht : P.underlying t = some (.float k)) (h : DataW.trod enc P w 0 spare held fuel t cs = some x) :
    ∃ n, cs = [.float k n] ∧ x = (.lit (.float k n), []) ∧ (Lit.float k n).wf = true := by
  cases fuel with
  | zero => simp [DataW.trod] at h
  | succ n =>
    unfold DataW.trod at h
    rw [ht] at h
    split at h <;> simp_all

/-- How an element's cells open. -/
def Opens {α : Type} (G : Elt α) (enc : TypeId × Value → H) (P : Program) (w : World) (spare : Nat → Bool) (held : Bool) (n : Nat) (e : TypeId) : Prop :=
  ∀ (cs : List Value) (x : DataW H × List MemPlace), DataW.trod enc P w 0 spare held n e cs = some x → ∃ a : α, cs.length = G.sz ∧ ∀ (j : Nat) (y : CV), (G.g a).cells[j]? = some y → Rep w L0 (cs.getD j undef) y

theorem open_list {α : Type} [Inhabited α] (G : Elt α) {n : Nat} {t e : TypeId} {cs : List Value} {x : DataW H × List MemPlace} (ht : P.underlying t = some (.slice e)) (hc : P.cellsOf e = G.sz)
    (he : Opens G enc P w spare held n e) (h : DataW.trod enc P w 0 spare held (n + 1) t cs = some x) : ∃ (l : List α) (v : Value), cs = [v] ∧ Rep w L0 v (.sl G.sz (l.map G.g)) := by
  rcases DataW.trod_slice ht h with ⟨rfl, _⟩ | ⟨a, len, cap, elems, rest, m, hm, rfl, _, hb, hl, hcm, hlen, hel, _⟩
  · exact ⟨[], _, rfl, Rep.sl_mk rfl (Nat.le_refl _) (by simp [maxLen]) G.pos (fun h => absurd h (by simp)) (fun i x hx => by simp at hx)⟩
  · have hm : n = m := by omega
    subst hm
    have key : ∀ i, i < len → ∃ q : α, ∃ cs', w.cells? 0 (a.add (i * P.cellsOf e)) (P.cellsOf e) = some cs' ∧ cs'.length = G.sz ∧ ∀ (j : Nat) (y : CV), (G.g q).cells[j]? = some y → Rep w L0 (cs'.getD j undef) y := by
      intro i hi
      have h1 := hel i hi
      rw [List.getElem?_eq_getElem (by omega)] at h1
      obtain ⟨cs', h2, h3⟩ := Option.bind_eq_some_iff.1 h1
      obtain ⟨q, hq, hr⟩ := he cs' _ h3
      exact ⟨q, cs', h2, hq, hr⟩
    obtain ⟨f, hf⟩ := Deep.choose_lt key
    refine ⟨(List.range len).map f, _, rfl, Rep.sl_mk (by simp) hl hcm G.pos (fun h0 => ?_) fun i x hx => ?_⟩
    · obtain ⟨cs0, h1, h2, _⟩ := hf 0 (by simpa using h0)
      obtain ⟨_, h4, h5⟩ := World.cells?_some h1
      have h6 := h5 0 (by rw [hc]; exact G.pos)
      rw [List.getElem?_eq_getElem (by rw [h2]; exact G.pos)] at h6
      obtain ⟨b, o, spot⟩ := a
      have hspot : spot = none := by
        have := World.cell?_spot h6
        unfold Addr.add at this
        simpa using this
      subst hspot
      refine ⟨b, o, rfl, fun h => h, fun i x hx j y hy => ?_⟩
      simp only [List.getElem?_map] at hx
      obtain ⟨q, hq, rfl⟩ := Option.map_eq_some_iff.1 hx
      rw [Option.map_eq_some_iff] at hq
      obtain ⟨k, hk, rfl⟩ := hq
      obtain ⟨hkl, rfl⟩ := List.getElem?_eq_some_iff.1 hk
      simp at hkl
      simp only [List.getElem_range] at hy
      obtain ⟨cs', g1, g2, g3⟩ := hf i hkl
      obtain ⟨_, g4, g5⟩ := World.cells?_some g1
      have hj : j < G.sz := by rw [← G.len (f i)]; exact (List.getElem?_eq_some_iff.1 hy).1
      have g6 := g5 j (by rw [hc]; exact hj)
      rw [List.getElem?_eq_getElem (by omega), hc] at g6
      refine ⟨cs'.getD j undef, ?_, g3 j y hy⟩
      rw [add_lit', add_lit'] at g6
      rw [show o + (i * G.sz + j) = o + i * G.sz + j by omega, g6]
      simp [List.getD, List.getElem?_eq_getElem (show j < cs'.length by omega)]
    · simp only [List.getElem?_map] at hx
      obtain ⟨q, _, rfl⟩ := Option.map_eq_some_iff.1 hx
      exact G.len q

instance : Inhabited V := ⟨.mk 0 0 0 ⟨#[]⟩ []⟩
def GV : Elt V := ⟨V.cv, 5, by decide, V.cells_len, V.plain, V.one⟩

/-- The types of api.Value and its fields in a program. -/
structure VTypes (P : Program) (tv tl ti tn tf ts : TypeId) (fs : Array Field) : Prop where
  v : P.underlying tv = some (.struct fs)
  f0 : (fs[0]?.map fun f => (f.type, f.offset)) = some (tn, 0)
  f1 : (fs[1]?.map fun f => (f.type, f.offset)) = some (ti, 1)
  f2 : (fs[2]?.map fun f => (f.type, f.offset)) = some (tf, 2)
  f3 : (fs[3]?.map fun f => (f.type, f.offset)) = some (ts, 3)
  f4 : (fs[4]?.map fun f => (f.type, f.offset)) = some (tl, 4)
  cv : P.cellsOf tv = 5
  cn : P.cellsOf tn = 1
  ci : P.cellsOf ti = 1
  cf : P.cellsOf tf = 1
  cs : P.cellsOf ts = 1
  cl : P.cellsOf tl = 1
  l : P.underlying tl = some (.slice tv)
  n : P.underlying tn = some (.int .i64)
  i : P.underlying ti = some (.int .i64)
  f : P.underlying tf = some (.float .f64)
  s : P.underlying ts = some .string

theorem open_V {tv tl ti tn tf ts : TypeId} {fs : Array Field} (T : VTypes P tv tl ti tn tf ts fs) : ∀ n : Nat, Opens GV enc P w spare held n tv := by
  intro n
  induction n using Nat.strongRecOn with
  | ind n ih =>
  intro cs x h
  obtain ⟨xs, m, rfl, _, hl, hxl, hf⟩ := DataW.trod_struct T.v h
  rw [T.cv] at hl
  have fld : ∀ (k : Nat) (t : TypeId), (fs[k]?.map fun f => (f.type, f.offset)) = some (t, k) → P.cellsOf t = 1 → k < 5 → ∃ y, DataW.trod enc P w 0 spare held m t [cs.getD k undef] = some y := by
    intro k t hk h1 hk5
    obtain ⟨f, hfk, he⟩ := Option.map_eq_some_iff.1 hk
    simp only [Prod.mk.injEq] at he
    have := hf k f hfk
    rw [he.1, he.2, h1, Deep.take1_drop cs k undef (by omega)] at this
    have hk' : k < xs.length := by rw [hxl]; exact (Array.getElem?_eq_some_iff.1 hfk).1
    rw [List.getElem?_eq_getElem hk'] at this
    exact ⟨_, this⟩
  obtain ⟨y0, h0⟩ := fld 0 tn T.f0 T.cn (by omega)
  obtain ⟨y1, h1⟩ := fld 1 ti T.f1 T.ci (by omega)
  obtain ⟨y2, h2⟩ := fld 2 tf T.f2 T.cf (by omega)
  obtain ⟨y3, h3⟩ := fld 3 ts T.f3 T.cs (by omega)
  obtain ⟨y4, h4⟩ := fld 4 tl T.f4 T.cl (by omega)
  obtain ⟨k, e0, _⟩ := DataW.trod_int T.n h0
  obtain ⟨i, e1, _⟩ := DataW.trod_int T.i h1
  obtain ⟨f, e2, _⟩ := trod_float T.f h2
  obtain ⟨s, e3, _⟩ := DataW.trod_string T.s h3
  cases m with
  | zero => simp [DataW.trod] at h4
  | succ m =>
    obtain ⟨l, v, e4, hv⟩ := open_list GV T.l T.cv (ih m (by omega)) h4
    simp only [List.cons.injEq, and_true] at e0 e1 e2 e3 e4
    refine ⟨.mk k i f s l, hl, fun j y hy => ?_⟩
    have hy : (V.mk k i f s l).cc[j]? = some y := by rw [← V.cells_cv]; exact hy
    match j with
    | 0 => simp [V.cc] at hy; subst hy; rw [e0]; exact .v _
    | 1 => simp [V.cc] at hy; subst hy; rw [e1]; exact .v _
    | 2 => simp [V.cc] at hy; subst hy; rw [e2]; exact .fl (.refl _)
    | 3 => simp [V.cc] at hy; subst hy; rw [e3]; exact .v _
    | 4 => simp [V.cc] at hy; subst hy; rw [e4]; exact hv
    | j + 5 => simp [V.cc] at hy

/-- AN api.Value THAT CAME IN. -/
theorem open_value {tv tl ti tn tf ts : TypeId} {fs : Array Field} (T : VTypes P tv tl ti tn tf ts fs) {r : Reach} {b0 : Nat} {v : Value} {d : DataW H} {ps : List MemPlace} (hval : Value.okWide P w r b0 tv v)
    (hd : DataW.Trod enc P w 0 spare held tv v d ps) : ∃ u : V, Rep w L0 v u.cv := by
  obtain ⟨cs, rfl, hsz⟩ := okWide_struct T.v hval
  obtain ⟨fuel, hf⟩ := hd
  obtain ⟨u, hl, hr⟩ := open_V T fuel _ _ hf
  refine ⟨u, ?_⟩
  rw [V.cv_eq]
  obtain ⟨cs⟩ := cs
  have hl : cs.length = 5 := hl
  refine .agg hl fun j y hy => ?_
  exact hr j y (by rw [show (GV.g u).cells = u.cc from V.cells_cv u]; exact hy)
/-- A LIST THAT CAME IN. -/
theorem open_lst {α : Type} [Inhabited α] (G : Elt α) {t e : TypeId} (ht : P.underlying t = some (.slice e)) (hc : P.cellsOf e = G.sz) (he : ∀ n, Opens G enc P w spare held n e) {r : Reach} {b0 : Nat} {v : Value} {d : DataW H} {ps : List MemPlace}
    (hval : Value.okWide P w r b0 t v) (hd : DataW.Trod enc P w 0 spare held t v d ps) : ∃ l : List α, Rep w L0 v (.sl G.sz (l.map G.g)) := by
  obtain ⟨a, len, cap, rfl⟩ := okWide_slice ht hval
  obtain ⟨fuel, hf⟩ := hd
  cases fuel with
  | zero => simp [DataW.trod] at hf
  | succ n =>
    obtain ⟨l, v, h1, h2⟩ := open_list G ht hc (he n) hf
    simp [Value.cells] at h1
    subst h1
    exact ⟨l, h2⟩
theorem trod_lt' {t : TypeId} {v : Value} {d : DataW H} {ps : List MemPlace} (h : DataW.Trod enc P w 0 spare held t v d ps) : ∀ x ∈ ps, x.block < w.heap.size := by
  obtain ⟨m, hm⟩ := h; exact DataW.trod_lt m _ _ _ hm
/-- Arguments, one by one. -/
theorem repsN {w : World} : ∀ (j : Nat) (z : CV), ([] : List CV)[j]? = some z → Rep w L0 (([] : List Value).getD j undef) z := fun j z hz => by simp at hz
theorem repsC {w : World} {a : Value} {x : CV} {as : List Value} {xs : List CV} (ha : Rep w L0 a x) (h : ∀ (j : Nat) (z : CV), xs[j]? = some z → Rep w L0 (as.getD j undef) z) :
    ∀ (j : Nat) (z : CV), (x :: xs)[j]? = some z → Rep w L0 ((a :: as).getD j undef) z := fun j z hz => by
  cases j with
  | zero => simp at hz; subst hz; exact ha
  | succ j => exact h j z (by simpa using hz)
theorem int_range {k : IntKind} {a : Int} (h : (Lit.int k a).wf = true) : k.min ≤ a ∧ a ≤ k.max := by simpa [Lit.wf] using h
theorem u8_of {a : Int} (h : (Lit.int .u8 a).wf = true) : ∃ k : Nat, a = k ∧ k < 256 := by
  obtain ⟨h1, h2⟩ := int_range h
  have e1 : IntKind.u8.min = 0 := rfl
  have e2 : IntKind.u8.max = 255 := rfl
  exact ⟨a.toNat, by omega, by omega⟩
theorem u16_of {a : Int} (h : (Lit.int .u16 a).wf = true) : ∃ k : Nat, a = k ∧ k < 65536 := by
  obtain ⟨h1, h2⟩ := int_range h
  have e1 : IntKind.u16.min = 0 := rfl
  have e2 : IntKind.u16.max = 65535 := rfl
  exact ⟨a.toNat, by omega, by omega⟩
theorem u32_of {a : Int} (h : (Lit.int .u32 a).wf = true) : ∃ k : Nat, a = k ∧ k < 4294967296 := by
  obtain ⟨h1, h2⟩ := int_range h
  have e1 : IntKind.u32.min = 0 := rfl
  have e2 : IntKind.u32.max = 4294967295 := rfl
  exact ⟨a.toNat, by omega, by omega⟩
theorem i64_of {a : Int} (h : (Lit.int .i64 a).wf = true) : -9223372036854775808 ≤ a ∧ a ≤ 9223372036854775807 := by
  obtain ⟨h1, h2⟩ := int_range h
  have e1 : IntKind.i64.min = -9223372036854775808 := rfl
  have e2 : IntKind.i64.max = 9223372036854775807 := rfl
  omega
/-- Numbers of a kind, with their bounds. -/
abbrev IntR (k : IntKind) := { a : Int // k.min ≤ a ∧ a ≤ k.max }
instance (k : IntKind) : Inhabited (IntR k) := ⟨⟨0, by cases k <;> decide⟩⟩
def GR (k : IntKind) : Elt (IntR k) := ⟨fun n => .v (.int k n.1), 1, by decide, fun _ => rfl, fun _ => rfl, fun a c hc => by simp [CV.cells] at hc; subst hc; rfl⟩
theorem opens_int {k : IntKind} {e : TypeId} (ht : P.underlying e = some (.int k)) (n : Nat) : Opens (GR k) enc P w spare held n e := by
  intro cs x h
  obtain ⟨a, rfl, _, hw⟩ := DataW.trod_int ht h
  refine ⟨⟨a, int_range hw⟩, rfl, fun j y hy => ?_⟩
  match j with
  | 0 => simp [GR, CV.cells] at hy; subst hy; exact .v _
  | j + 1 => simp [GR, CV.cells] at hy
theorem opens_float {e : TypeId} (ht : P.underlying e = some (.float .f64)) (n : Nat) : Opens GF enc P w spare held n e := by
  intro cs x h
  obtain ⟨a, rfl, _, hw⟩ := trod_float ht h
  refine ⟨a, rfl, fun j y hy => ?_⟩
  match j with
  | 0 => simp [GF, CV.cells] at hy; subst hy; exact .fl (.refl _)
  | j + 1 => simp [GF, CV.cells] at hy
/-- A field of a struct that came in. -/
theorem trod_fld {fs : Array Field} {t : TypeId} {n : Nat} {cs : List Value} {x : DataW H × List MemPlace} (ht : P.underlying t = some (.struct fs)) (h : DataW.trod enc P w 0 spare held n t cs = some x) :
    cs.length = P.cellsOf t ∧ ∃ m, n = m + 1 ∧ ∀ (k : Nat) (tk ok ck : Nat), (fs[k]?.map fun f => (f.type, f.offset)) = some (tk, ok) → P.cellsOf tk = ck → ∃ y, DataW.trod enc P w 0 spare held m tk ((cs.drop ok).take ck) = some y := by
  obtain ⟨xs, m, rfl, _, hl, hxl, hf⟩ := DataW.trod_struct ht h
  refine ⟨hl, m, rfl, fun k tk ok ck hk hc => ?_⟩
  obtain ⟨f, hfk, he⟩ := Option.map_eq_some_iff.1 hk
  simp only [Prod.mk.injEq] at he
  have := hf k f hfk
  rw [he.1, he.2, hc] at this
  have hk' : k < xs.length := by rw [hxl]; exact (Array.getElem?_eq_some_iff.1 hfk).1
  rw [List.getElem?_eq_getElem hk'] at this
  exact ⟨_, this⟩
end
end Go.AM
