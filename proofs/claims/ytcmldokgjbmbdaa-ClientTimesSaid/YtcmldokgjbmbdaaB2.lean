/- The abstract machine. It speaks of whatever program. -/
import Derived.Test.YtcmldokgjbmbdaaB1

/- The abstract machine, part 13: variables are made and written, slices grow. It speaks of whatever program. -/
namespace Go.AM
open Go Go.RowKit
set_option linter.unusedVariables false
set_option linter.unusedSimpArgs false


/-- What an operation makes of contents, wherever they lie. -/
def RunOp (E : Env) (op : Op) (xs : List (Operand × CV)) (r : CV) : Prop :=
  ∀ (w : World) (L : Nat → Prop) (eval : Operand → Value) (o : Oper), (∀ b, L b → b < w.heap.size) → o.op = op → (∀ p ∈ xs, Rep w L (eval p.1) p.2) →
    ∃ u w', (execOp eval o).run E.P w = .ok (.value u) w' ∧ Keep (fun _ => False) w w' ∧ Rep w' L u r

/-- A step of an operation: the value it leaves, what it turns in memory, which objects it looks at, which it makes. -/
inductive StepR (E : Env) (m : Nat → Option Ob) (ev : Operand → AV) : Option Tmp → Op → AV → List (Nat × Option Ob) → List Nat → List Nat → Prop where
  | val {dst : Option Tmp} {op : Op} {v : AV} {R : List Nat} (h : StepV E m ev op v R) : StepR E m ev dst op v [] R []
  | box {d : Tmp} {t : TypeId} {x : Operand} {ys : List AV} {R : List Nat} (hc : Cells m (ev x) ys R) : StepR E m ev (some d) (.box t x) (.loc d 0) [(d, some (.box ys))] R [d]
  | alloc {d : Tmp} {t : TypeId} {td : TD} (ht : E.Ty t = some td) : StepR E m ev (some d) (.alloc t) (.loc d 0) [(d, some (.box (td.zero.map fun z => .c (.v z))))] [] [d]
  | storeL {t : TypeId} {x y : Operand} {i off : Nat} {cells ys : List AV} {d : TD} {R R' : List Nat} (hx : ev x = .loc i off) (hm : m i = some (.box cells)) (ht : E.Ty t = some d)
      (hy : Cells m (ev y) ys R) (h1 : AllOne m ys R') (hl : ys.length = d.sz) (hb : off + d.sz ≤ cells.length) :
      StepR E m ev none (.store t x y) .any [(i, some (.box (setMany cells off ys)))] (i :: (R ++ R')) []
  | appM {d : Tmp} {t : TypeId} {x y : Operand} {i n sz e : Nat} {xs ys : List CV} {td de : TD} (hx : ev x = .ms i n) (hm : m i = some (.arr sz e xs)) (hn : xs.length = n) (hy : ev y = .c (.sl sz ys))
      (ht : E.Ty t = some td) (hd : td.desc = .slice e) (he : E.Ty e = some de) (hs : de.sz = sz) (hb : (n + ys.length) * de.bytes ≤ 140737488355328) (hb0 : 0 < de.bytes) (h1 : ∀ y ∈ ys, ∀ c ∈ y.cells, c.one = true)
      (h0 : 0 < ys.length) :
      StepR E m ev (some d) (.call { callee := .builtin .append, args := #[x, y], argTypes := #[t, t] }) (.ms d (n + ys.length)) [(i, none), (d, some (.arr sz e (xs ++ ys)))] [i] (bif Nat.beq i d then [] else [d])
  | appN {d : Tmp} {t : TypeId} {x y : Operand} {sz e : Nat} {ys : List CV} {td de : TD} (hx : ev x = .c (.v (.slice none 0 0))) (hy : ev y = .c (.sl sz ys))
      (ht : E.Ty t = some td) (hd : td.desc = .slice e) (he : E.Ty e = some de) (hs : de.sz = sz) (h0 : 0 < sz) (hb : ys.length * de.bytes ≤ 140737488355328) (hb0 : 0 < de.bytes) (h1 : ∀ y ∈ ys, ∀ c ∈ y.cells, c.one = true) :
      StepR E m ev (some d) (.call { callee := .builtin .append, args := #[x, y], argTypes := #[t, t] }) (.ms d ys.length) [(d, some (.arr sz e ys))] [] [d]
  | mkM {d : Tmp} {t : TypeId} {x y : Operand} {e : Nat} {k k' : IntKind} {n c : Nat} {td de : TD} {z : Value} (hx : ev x = .c (.v (.int k n))) (hy : ev y = .c (.v (.int k' c))) (hnc : n ≤ c) (ht : E.Ty t = some td) (hd : td.desc = .slice e) (he : E.Ty e = some de)
      (hz : de.zero = [z]) (hs : de.sz = 1) (hb : c * de.bytes ≤ 140737488355328) (hc : c ≤ 140737488355328) :
      StepR E m ev (some d) (.makeSlice t x y) (.ms d n) [(d, some (.arr 1 e (List.replicate n (.v z))))] [] [d]
  | storeE {t : TypeId} {x y : Operand} {i n sz k off e : Nat} {xs zs : List CV} {x0 x1 : CV} {ys : List AV} {d : TD} {R : List Nat} (hx : ev x = .el i n sz k off) (hm : m i = some (.arr sz e xs)) (hn : xs.length = n) (hk : xs[k]? = some x0) (ht : E.Ty t = some d)
      (hy : Cells m (ev y) ys R) (hz : ToCs ys zs) (h1 : zs.all CV.one = true) (hl : zs.length = d.sz) (hb : off + d.sz ≤ x0.cells.length) (he : x1.cells = x0.cells.take off ++ zs ++ x0.cells.drop (off + zs.length)) :
      StepR E m ev none (.store t x y) .any [(i, some (.arr sz e (xs.set k x1)))] (i :: R) []
  | callO {dst : Option Tmp} {callee : Operand} {args : Array Operand} {ats : Array TypeId} {f : FuncId} {us : List Value} {xs rs : List AV} {oa ob : List (Nat × Ob)}
      (hc : ev callee = .c (.v (.func (.func f) #[] ⟨us⟩))) (hx : ToAs (args.toList.map ev ++ us.map fun u => .c (.v u)) xs) (hm : ∀ p ∈ oa, m p.1 = some p.2) (hnb : (ob.map (·.1)).Nodup)
      (hlt : ∀ d ∈ newIds oa ob, d < 1000000) (hp : Own E.P f xs oa rs ob) :
      StepR E m ev dst (.call { callee := .value callee, args := args, argTypes := ats }) (resA rs) (ownW oa ob) (oa.map (·.1)) (newIds oa ob)
  | run {dst : Option Tmp} {op : Op} {r : CV} (xs : List (Operand × CV)) (hx : ∀ p ∈ xs, ev p.1 = .c p.2 ∧ p.1 ∈ op.operands.toList) (h : RunOp E op xs r) : StepR E m ev dst op (.c r) [] [] []
  | runC {dst : Option Tmp} {op : Op} {r : CV} (xs : List (Operand × CV)) (hx : ∀ p ∈ xs, ToC (ev p.1) p.2 ∧ p.1 ∈ op.operands.toList) (h : RunOp E op xs r) : StepR E m ev dst op (.c r) [] [] []
  | nilL {dst : Option Tmp} {x : Operand} {i off : Nat} {cells : List AV} (hx : ev x = .loc i off) (hm : m i = some (.box cells)) : StepR E m ev dst (.nilCheck x) (.loc i off) [] [i] []
  | nilE {dst : Option Tmp} {x : Operand} {i n sz k off sz' e : Nat} {xs : List CV} (hx : ev x = .el i n sz k off) (hm : m i = some (.arr sz' e xs)) (hn : xs.length = n) : StepR E m ev dst (.nilCheck x) (.el i n sz k off) [] [i] []
  | idxL {dst : Option Tmp} {t : TypeId} {x ix : Operand} {i off len e : Nat} {cells : List AV} {k : IntKind} {n : Int} {d de : TD} (hx : ev x = .loc i off) (hm : m i = some (.box cells)) (hi : ev ix = .c (.v (.int k n))) (h0 : 0 ≤ n) (hlt : n < len)
      (ht : E.Ty t = some d) (hd : d.desc = .array len e) (he : E.Ty e = some de) : StepR E m ev dst (.indexAddr t x ix) (.loc i (off + n.toNat * de.sz)) [] [i] []
  | eqNL {dst : Option Tmp} {op : BinOp} {t u : TypeId} {x y : Operand} {i off e : Nat} {cells : List AV} {d : TD} (hop : op = .eql ∨ op = .neq) (hx : ev x = .loc i off) (hm : m i = some (.box cells)) (hy : ev y = .c (.v (.pointer none)))
      (ht : E.Ty t = some d) (hd : d.desc = .pointer e) : StepR E m ev dst (.binOp op t x y u) (.c (.v (.bool (op == .neq)))) [] [i] []
  | bsM {d : Tmp} {t : TypeId} {e sz : Nat} {parts : Array (Nat × Operand)} {xs : List CV} {td de : TD} (ht : E.Ty t = some td) (hd : td.desc = .slice e) (he : E.Ty e = some de) (hs : de.sz = sz) (h0 : Nat.beq sz 0 = false)
      (hi : parts.toList.map (·.1) = List.range xs.length) (hx : ToCs (parts.toList.map fun p => ev p.2) xs) (hl : ∀ x ∈ xs, x.cells.length = sz ∧ x.plain = true) (hb : xs.length * sz ≤ 16777216) :
      StepR E m ev (some d) (.buildSlice t xs.length parts) (.ms d xs.length) [(d, some (.arr sz e xs))] [] [d]
  | vwM {dst : Option Tmp} {t : TypeId} {x : Operand} {lo hi mx : Option Operand} {i n sz e e' l h : Nat} {c : Option Nat} {xs : List CV} {d de : TD} (hx : ev x = .ms i n) (hm : m i = some (.arr sz e' xs)) (hn : xs.length = n) (h0 : 0 < n)
      (ht : E.Ty t = some d) (hd : d.desc = .slice e) (he : E.Ty e = some de) (hs : de.sz = sz) (hlo : match lo with | some o => ∃ k q, ev o = .c (.v (.int k q)) ∧ 0 ≤ q ∧ q.toNat = l | none => l = 0)
      (hhi : match hi with | some o => ∃ k q, ev o = .c (.v (.int k q)) ∧ 0 ≤ q ∧ q.toNat = h | none => h = n ∧ mx = none)
      (hmx : match mx with | some o => ∃ k q, ev o = .c (.v (.int k q)) ∧ 0 ≤ q ∧ c = some q.toNat | none => c = none) (hlh : l ≤ h) (hhc : h ≤ c.getD n) (hcc : c.getD n ≤ n) :
      StepR E m ev dst (.slice t x lo hi mx) (.mv i n l h c) [] [i] []
  | vwV {dst : Option Tmp} {t : TypeId} {x : Operand} {lo hi : Option Operand} {i n sz e e' l h h1 : Nat} {xs : List CV} {d de : TD} (hx : ev x = .mv i n 0 h1 none) (hm : m i = some (.arr sz e' xs)) (hn : xs.length = n)
      (ht : E.Ty t = some d) (hd : d.desc = .slice e) (he : E.Ty e = some de) (hs : de.sz = sz) (hlo : match lo with | some o => ∃ k q, ev o = .c (.v (.int k q)) ∧ 0 ≤ q ∧ q.toNat = l | none => l = 0)
      (hhi : match hi with | some o => ∃ k q, ev o = .c (.v (.int k q)) ∧ 0 ≤ q ∧ q.toNat = h | none => h = h1) (hlh : l ≤ h) (hhn : h ≤ n) :
      StepR E m ev dst (.slice t x lo hi none) (.mv i n l h none) [] [i] []
  | lnW {dst : Option Tmp} {t : TypeId} {x : Operand} {i n sz e e' l h : Nat} {c : Option Nat} {xs : List CV} {d : TD} (hx : ev x = .mv i n l h c) (hm : m i = some (.arr sz e' xs)) (hn : xs.length = n) (ht : E.Ty t = some d) (hd : d.desc = .slice e) :
      StepR E m ev dst (.call { callee := .builtin .len, args := #[x], argTypes := #[t] }) (.c (.v (.int .i64 (h - l : Nat)))) [] [i] []
  | apVV {d : Tmp} {t : TypeId} {x y : Operand} {i n p q sz e : Nat} {xs : List CV} {td de : TD} (hx : ev x = .mv i n 0 p (some p)) (hy : ev y = .mv i n q n none) (hm : m i = some (.arr sz e xs)) (hn : xs.length = n)
      (ht : E.Ty t = some td) (hd : td.desc = .slice e) (he : E.Ty e = some de) (hs : de.sz = sz) (hb : n * de.bytes ≤ 140737488355328) (hb0 : 0 < de.bytes) (h1 : ∀ y ∈ xs, ∀ c ∈ y.cells, c.one = true) (hpq : p ≤ q) :
      StepR E m ev (some d) (.call { callee := .builtin .append, args := #[x, y], argTypes := #[t, t] }) (.ms d (p + (n - q))) [(i, none), (d, some (.arr sz e (xs.take p ++ xs.drop q)))] [i] [d]
  | apIn {dst : Option Tmp} {t : TypeId} {x y : Operand} {i n p q sz e : Nat} {xs : List CV} {td de : TD} (hx : ev x = .mv i n 0 p none) (hy : ev y = .mv i n q n none) (hm : m i = some (.arr sz e xs)) (hn : xs.length = n)
      (ht : E.Ty t = some td) (hd : td.desc = .slice e) (he : E.Ty e = some de) (hs : de.sz = sz) (h1 : ∀ y ∈ xs, ∀ c ∈ y.cells, c.one = true) (hpq : p ≤ q) :
      StepR E m ev dst (.call { callee := .builtin .append, args := #[x, y], argTypes := #[t, t] }) (.mv i n 0 (p + (n - q)) none) [(i, some (.arr sz e (xs.take p ++ xs.drop q ++ xs.drop (p + (n - q)))))] [i] []
  | clV {dst : Option Tmp} {t : TypeId} {x : Operand} {i n l h sz e : Nat} {xs : List CV} {x0 : CV} {td de : TD} (hx : ev x = .mv i n l h none) (hm : m i = some (.arr sz e xs)) (hn : xs.length = n) (hlh : l < h) (hhn : h ≤ n)
      (ht : E.Ty t = some td) (hd : td.desc = .slice e) (he : E.Ty e = some de) (hs : de.sz = sz) (hx0 : x0.cells = de.zero.map .v) (h1 : de.zero.all (fun u => u.oneCell') = true) :
      StepR E m ev dst (.call { callee := .builtin .clear, args := #[x], argTypes := #[t] }) .any [(i, some (.arr sz e (xs.take l ++ List.replicate (h - l) x0 ++ xs.drop h)))] [i] []

section
variable {E : Env} {C : Ctx} {s : AS} {ρ : Nat → Value} {a : Act} {w : World} {K : Act → World → Prop} {Q : Exit → Act → World → Prop}

theorem run_equalIn_nil (d : Nat) {t e : TypeId} (p : Addr) (hu : E.P.underlying t = some (.pointer e)) : (Op.equalIn (d + 1) t (.pointer (some p)) (.pointer none)).run E.P w = .ok false w := by
  unfold Op.equalIn
  simp only [Sem.run_bind, run_underlying hu, Result.andThen_ok]
  rfl
theorem run_eqNil {t e : TypeId} (p : Addr) {op : BinOp} (hop : op = .eql ∨ op = .neq) (hu : E.P.underlying t = some (.pointer e)) : (binOp op t (.pointer (some p)) (.pointer none)).run E.P w = .ok (.bool (op == .neq)) w := by
  rcases hop with rfl | rfl
  · have e1 : binOp .eql t (.pointer (some p)) (.pointer none) = (do pure (.bool (← Op.equal t (.pointer (some p)) (.pointer none)))) := rfl
    rw [e1]
    simp only [Sem.run_bind, Op.equal, Op.maxDepth]
    rw [run_equalIn_nil 9999 p hu]; rfl
  · have e1 : binOp .neq t (.pointer (some p)) (.pointer none) = (do pure (.bool (!(← Op.equal t (.pointer (some p)) (.pointer none))))) := rfl
    rw [e1]
    simp only [Sem.run_bind, Op.equal, Op.maxDepth]
    rw [run_equalIn_nil 9999 p hu]; rfl
theorem guard_nil (op : BinOp) (t : TypeId) (x y : Operand) (p : Addr) : (eqGuard op t x y (.pointer (some p)) (.pointer none)).run E.P w = .ok () w := by
  unfold eqGuard; cases op <;> rfl

theorem setCells_block (w : World) (b : Nat) : ∀ (vs : List Value) (i : Nat) (cur : Array Value) (ty : TypeId), w.heap[b]? = some (.cells cur ty (0, 0)) → i + vs.length ≤ cur.size →
    (w.setCells b i vs).heap[b]? = some (.cells ⟨cur.toList.take i ++ vs ++ cur.toList.drop (i + vs.length)⟩ ty (0, 0)) ∧ Keep (fun x => x = b) w (w.setCells b i vs) := by
  intro vs
  induction vs generalizing w with
  | nil =>
    intro i cur ty h hl
    refine ⟨?_, Keep.refl _ _⟩
    show w.heap[b]? = _
    rw [h]; congr 2; apply Array.ext'; simp
  | cons v vs ih =>
    intro i cur ty h hl
    have hs : (w.setCell ⟨b, i, none⟩ v).heap[b]? = some (.cells (cur.setIfInBounds i v) ty (0, 0)) := by
      simp [World.setCell, Array.getElem?_modify, h]
    obtain ⟨h1, h2⟩ := ih (w.setCell ⟨b, i, none⟩ v) (i + 1) (cur.setIfInBounds i v) ty hs (by simp at hl ⊢; omega)
    refine ⟨?_, (Keep.setCell (T := fun x => x = b) w ⟨b, i, none⟩ v rfl).trans h2 fun _ _ h => h⟩
    show ((w.setCell ⟨b, i, none⟩ v).setCells b (i + 1) vs).heap[b]? = _
    rw [h1]
    congr 2
    apply Array.ext'
    simp only [Array.toList_setIfInBounds, List.length_cons] at hl ⊢
    have e1 : (cur.toList.set i v).take (i + 1) = cur.toList.take i ++ [v] := by
      rw [List.take_add_one]
      simp [List.take_set, show i < cur.size by omega]
      rw [List.set_eq_of_length_le (by simp; omega)]
    rw [e1, List.drop_set_of_lt (by omega)]
    simp; congr 1; omega

theorem run_storeAt' {t : Nat} {d : TD} (ht : E.Ty t = some d) (w : World) (b o : Nat) (v : Value) (hv : v.cells.size = d.sz) (cur : Array Value) (ty : TypeId) (hh : w.heap[b]? = some (.cells cur ty (0, 0)))
    (hl : o + d.sz ≤ cur.size) (h1 : ∀ u ∈ v.cells.toList, u.oneCell' = true) : (Instr.storeAt t (.pointer (some ⟨b, o, none⟩)) v).run E.P w = .ok () (w.setCells b o v.cells.toList) := by
  have hst := run_storeCells_cells (P := E.P) b o v.cells.toList 0 w (fun j hj => by
      rw [cell_of_row w b (o + 0 + j) cur ty (0, 0) hh]
      have : o + 0 + j < cur.size := by simp at hj; omega
      simp; omega) (fun j hj => by simp [World.frozen?, hh]) h1
  simp only [Nat.add_zero] at hst
  simp [Instr.storeAt, Instr.sureAddr, storeVar, Env.size ht, hv, hst]


/-- What an append hands over: the cells of the slice. -/
theorem news_of (h : STr C s ρ a w) {sz : Nat} {ys : List CV} {b o : Nat} (hsz : 0 < sz) (hlen : ∀ (i : Nat) (x : CV), ys[i]? = some x → x.cells.length = sz) {L : Nat → Prop}
    (hc : ∀ (i : Nat) (x : CV), ys[i]? = some x → ∀ (j : Nat) (y : CV), x.cells[j]? = some y → ∃ u, w.cell? ⟨b, o + (i * sz + j), none⟩ = some u ∧ Rep w L u y) (h1 : ∀ y ∈ ys, ∀ c ∈ y.cells, c.one = true) :
    ∃ news : List Value, news.length = ys.length * sz ∧ (∀ j u, news[j]? = some u → w.cell? ((⟨b, o, none⟩ : Addr).add j) = some u) ∧ (∀ u ∈ news, u.oneCell' = true) ∧
      ∀ (i : Nat) (x : CV), ys[i]? = some x → ∀ (j : Nat) (y : CV), x.cells[j]? = some y → Rep w L (news.getD (i * sz + j) undef) y := by
  have key : ∀ q, q < ys.length * sz → ∃ u, w.cell? ⟨b, o + q, none⟩ = some u ∧ u.oneCell' = true := by
    intro q hq
    have hd : q / sz < ys.length := by rw [Nat.div_lt_iff_lt_mul hsz]; exact hq
    have hm : q % sz < sz := Nat.mod_lt _ hsz
    have hx := List.getElem?_eq_getElem hd
    have hj : q % sz < (ys[q / sz]).cells.length := by rw [hlen _ _ hx]; exact hm
    obtain ⟨u, hu, hr⟩ := hc _ _ hx _ _ (List.getElem?_eq_getElem hj)
    refine ⟨u, by rw [← hu]; congr 2; rw [Nat.mul_comm]; rw [Nat.div_add_mod], CV.one_sound hr (h1 _ (List.getElem_mem hd) _ (List.getElem_mem hj))⟩
  refine ⟨(List.range (ys.length * sz)).map fun q => (w.cell? ⟨b, o + q, none⟩).getD undef, by simp, fun j u hu => ?_, fun u hu => ?_, fun i x hx j y hy => ?_⟩
  · simp only [List.getElem?_map] at hu
    obtain ⟨q, hq, rfl⟩ := Option.map_eq_some_iff.1 hu
    obtain ⟨hlt, he⟩ := List.getElem?_eq_some_iff.1 hq
    simp at hlt he; subst he
    obtain ⟨u, hu, _⟩ := key j hlt
    rw [add_lit', hu]; rfl
  · obtain ⟨q, hq, rfl⟩ := List.mem_map.1 hu
    obtain ⟨u, hu, h1⟩ := key q (List.mem_range.1 hq)
    rw [hu]; exact h1
  · have hjs : j < sz := by rw [← hlen i x hx]; exact (List.getElem?_eq_some_iff.1 hy).1
    have hil : i < ys.length := (List.getElem?_eq_some_iff.1 hx).1
    have hlt : i * sz + j < ys.length * sz := by
      calc i * sz + j < i * sz + sz := by omega
        _ = (i + 1) * sz := by rw [Nat.succ_mul]
        _ ≤ _ := Nat.mul_le_mul_right _ hil
    obtain ⟨u, hu, hr⟩ := hc i x hx j y hy
    have : ((List.range (ys.length * sz)).map fun q => (w.cell? ⟨b, o + q, none⟩).getD undef).getD (i * sz + j) undef = u := by
      simp [List.getD, hlt, hu]
    rw [this]; exact hr

theorem run_append_nilsrc (w : World) {t ty e : Nat} {td de : TD} (ht : E.Ty t = some td) (hd : td.desc = .slice e) (he : E.Ty e = some de) (base : Option Addr) (n cap c : Nat) (hn : n ≤ cap) :
    (Builtin.append_ #[t, t] ty #[.slice base n cap, .slice none 0 c]).run E.P w = .ok (.slice base n cap) w := by
  have hu := Env.und ht; rw [hd] at hu
  cases base <;> simp [Builtin.append_, run_underlying hu, Env.size he, Builtin.lenOf, Builtin.firstCells, hn, storeCells]

/-- The step's state. -/
def AS.app (s : AS) (dst : Option Tmp) (v : AV) (mw : List (Nat × Option Ob)) : AS := ⟨putT s.t dst v, updMs s.m mw⟩


theorem getL {l r : List Value} {k : Nat} : (l ++ r).getD k undef = if k < l.length then l.getD k undef else r.getD (k - l.length) undef := by
  simp only [List.getD, List.getElem?_append]; split <;> rfl

theorem elems_append {L' : Nat → Prop} {w' : World} {sz : Nat} {xs ys : List CV} {vs news : List Value} (hl : vs.length = xs.length * sz)
    (h1 : ∀ (i : Nat) (x : CV), xs[i]? = some x → x.cells.length = sz ∧ ∀ (j : Nat) (y : CV), x.cells[j]? = some y → Rep w' L' (vs.getD (i * sz + j) undef) y)
    (h2 : ∀ (i : Nat) (x : CV), ys[i]? = some x → x.cells.length = sz ∧ ∀ (j : Nat) (y : CV), x.cells[j]? = some y → Rep w' L' (news.getD (i * sz + j) undef) y) :
    ∀ (i : Nat) (x : CV), (xs ++ ys)[i]? = some x → x.cells.length = sz ∧ ∀ (j : Nat) (y : CV), x.cells[j]? = some y → Rep w' L' ((vs ++ news).getD (i * sz + j) undef) y := by
  intro i x hx
  rw [List.getElem?_append] at hx
  split at hx
  · rename_i hi
    obtain ⟨ha, hb⟩ := h1 i x hx
    refine ⟨ha, fun j y hy => ?_⟩
    have hj : j < sz := by rw [← ha]; exact (List.getElem?_eq_some_iff.1 hy).1
    have hlt : i * sz + j < vs.length := by
      rw [hl]
      calc i * sz + j < i * sz + sz := by omega
        _ = (i + 1) * sz := by rw [Nat.succ_mul]
        _ ≤ _ := Nat.mul_le_mul_right _ hi
    rw [getL, if_pos hlt]; exact hb j y hy
  · rename_i hi
    obtain ⟨ha, hb⟩ := h2 _ x hx
    refine ⟨ha, fun j y hy => ?_⟩
    have hge : xs.length * sz ≤ i * sz := Nat.mul_le_mul_right _ (by omega)
    rw [getL, if_neg (by omega)]
    have : i * sz + j - vs.length = (i - xs.length) * sz + j := by rw [hl, Nat.sub_mul]; omega
    rw [this]; exact hb j y hy

theorem NoId.evx {s : AS} {d : Nat} (h : s.noId d) (x : Operand) : NoId d (s.ev x) := by
  cases x with
  | tmp t => exact h.1 t
  | const v => exact .c _
  | global g => exact .any
  | func f => exact .c _
/-- What is known of a row that a view is of. -/
theorem STr.row (h : STr C s ρ a w) {i n sz e : Nat} {xs : List CV} (hm : s.m i = some (.arr sz e xs)) (hn : xs.length = n) (h0 : 0 < n) :
    0 < sz ∧ ∃ b o cap cur vs, ρ i = .slice (some ⟨b, o, none⟩) n cap ∧ w.heap[b]? = some (.cells cur e (0, 0)) ∧ n ≤ cap ∧ cap ≤ maxLen ∧ o + cap * sz ≤ cur.size ∧ (cur.toList.drop o).take (n * sz) = vs ∧ Elems w (LL C s.m ρ) sz xs vs ∧
      ∀ (q : Nat), q ≤ n → ∀ j u, (vs.drop (q * sz))[j]? = some u → w.cell? ((⟨b, if cap = q then o else o + q * sz, none⟩ : Addr).add j) = some u := by
  obtain ⟨hs0, vs, hown, hvs⟩ := h.obj i _ hm
  rcases hown.2 with ⟨_, h2⟩ | ⟨b, o, cap, cur, hu, hgg, hnc, hcm, hcs, htake⟩
  · omega
  rw [hn] at hu hnc htake
  refine ⟨hs0, b, o, cap, cur, vs, hu, hgg, hnc, hcm, hcs, htake, ⟨hown.1, hvs⟩, fun q hq j u hj => ?_⟩
  have hvl : vs.length = n * sz := by rw [← hn]; exact hown.1
  have hjl := (List.getElem?_eq_some_iff.1 hj).1
  rw [List.length_drop, hvl] at hjl
  have hqs : q * sz ≤ n * sz := Nat.mul_le_mul_right _ hq
  have hns : n * sz ≤ cap * sz := Nat.mul_le_mul_right _ hnc
  have hne : ¬ cap = q := by
    intro e
    have : cap * sz = q * sz := by rw [e]
    omega
  rw [if_neg hne, add_lit', cell_of_row w b _ cur e (0, 0) hgg]
  rw [List.getElem?_drop, ← htake, List.getElem?_take] at hj
  split at hj
  · rw [List.getElem?_drop] at hj
    rw [← hj]; simp; congr 1; omega
  · cases hj
/-- ONE STEP, SOUND. -/
theorem StepR.wp (h : STr C s ρ a w) {dst : Option Tmp} {op : Op} {v : AV} {mw : List (Nat × Option Ob)} {R F : List Nat} (hs : StepR E s.m s.ev dst op v mw R F) {o : Oper} (ho : o.op = op) (hdst : o.dst = dst)
    (hd : ∀ d, dst = some d → d < C.n) (hF : ∀ d ∈ F, s.noId d)
    (hK : ∀ a' w', ST C (s.app dst v mw) a' w' → K a' w') : o.wp E.P a w K Q := by
  cases hs with
  | val hv =>
    refine hv.wp h ho fun u w' hk hu => hK _ _ ⟨ρ, ?_⟩
    rw [hdst]
    exact (h.world hk).put dst hd fun _ => hu
  | box hc =>
    rename_i d t x ys
    obtain ⟨hcs, hcr⟩ := Cells.sound h (h.evR x) hc
    have hn := hF d (by simp)
    have hnew := h.new d (Nat.lt_of_lt_of_le (hd d rfl) C.hn) t (a.eval x).cells ys hcs hn.1 hn.2 (fun y hy => by
      obtain ⟨j, hj⟩ := List.mem_iff_getElem?.1 hy
      have := hn.1
      have hx : NoId d (s.ev x) := by cases x <;> first | exact hn.1 _ | exact .c _ | exact .any
      generalize s.ev x = q at hc hx
      cases hc with
      | agg xs => cases hx with | agg hx => exact hx j y hj
      | cagg cs => obtain ⟨z, _, rfl⟩ := List.mem_map.1 hy; exact .c z
      | one _ => simp at hy; subst hy; exact hx) hcr
    refine wp_val (u := .pointer (some ⟨w.heap.size, 0, none⟩)) (w' := w.alloc (.cells (a.eval x).cells t)) (by simp [execOp, ho, Instr.box, newVar, newRow]) ?_
    rw [hdst]
    exact hK _ _ ⟨_, hnew.put (some d) hd fun _ => .loc fun cells _ => ⟨_, updV_same _ _ _, rfl⟩⟩
  | alloc ht =>
    rename_i d t td
    have hn := hF d (by simp)
    obtain ⟨z, hz, hzc⟩ := Env.zero ht w
    have hnew := h.new d (Nat.lt_of_lt_of_le (hd d rfl) C.hn) t z.cells (td.zero.map fun z => .c (.v z)) (by rw [← hzc]; simp) hn.1 hn.2 (fun y hy => by obtain ⟨q, _, rfl⟩ := List.mem_map.1 hy; exact .c _) (fun j y hy => by
      simp only [List.getElem?_map] at hy
      obtain ⟨q, hq, rfl⟩ := Option.map_eq_some_iff.1 hy
      rw [← hzc] at hq
      have : z.cells.getD j undef = q := by simp [Array.getD_eq_getD_getElem?] at hq ⊢; rw [hq]; rfl
      rw [this]; exact .c (.v q))
    refine wp_val (u := .pointer (some ⟨w.heap.size, 0, none⟩)) (w' := w.alloc (.cells z.cells t)) (by simp [execOp, ho, Instr.alloc, hz, newVar, newRow]) ?_
    rw [hdst]
    exact hK _ _ ⟨_, hnew.put (some d) hd fun _ => .loc fun cells _ => ⟨_, updV_same _ _ _, rfl⟩⟩
  | storeL hx hm ht hy h1 hl hb =>
    rename_i t x y i off cells ys d R1 R2
    have hxv := h.evR x; rw [hx] at hxv
    obtain ⟨b, hρ, hxv⟩ := hxv.loc_inv _ hm
    obtain ⟨b', cs, ty, hu, hheap, hcs, hcc⟩ := h.obj i _ hm
    rw [hρ] at hu; cases hu
    obtain ⟨hys, hyr⟩ := Cells.sound h (h.evR y) hy
    have hone := AllOne.sound h h1 (vs := (a.eval y).cells.toList) (by simpa using hys) (fun j q hq => by simpa [Array.getD_eq_getD_getElem?, List.getD] using hyr j q hq)
    have hrun := run_storeAt' ht w b off (a.eval y) (by omega) cs ty hheap (by omega) hone
    obtain ⟨hblk, hkeep⟩ := setCells_block w b (a.eval y).cells.toList off cs ty hheap (by simp; omega)
    have hwr := h.write i (.box cells) (.box (setMany cells off ys)) hm (b := b) (by rw [hρ]; rfl) hkeep (.inl ⟨_, _, rfl, rfl⟩) (fun hmv hmc => by
      refine ⟨b, _, ty, hρ, hblk, ?_, fun j q hq => ?_⟩
      · have := hcs; simp [setMany]; omega
      · have e : ∀ l : List Value, (⟨l⟩ : Array Value).getD j undef = l.getD j undef := fun l => by simp [Array.getD_eq_getD_getElem?, List.getD]
        rw [e]
        refine hmv _ _ ?_
        unfold setMany at hq
        simp only [List.getD, List.getElem?_append, List.length_append, List.length_take, Array.length_toList] at hq ⊢
        rw [show min off cs.size = off by omega]
        rw [show min off cells.length = off by omega] at hq
        by_cases hj : j < off
        · rw [if_pos (by omega), if_pos hj] at hq ⊢
          rw [List.getElem?_take, if_pos hj] at hq ⊢
          simpa [Array.getD_eq_getD_getElem?] using hcc j q hq
        · by_cases hj2 : j < off + ys.length
          · rw [if_pos (by omega), if_neg hj] at hq ⊢
            simpa [Array.getD_eq_getD_getElem?] using hyr (j - off) q hq
          · rw [if_neg (by omega)] at hq ⊢
            rw [List.getElem?_drop] at hq ⊢
            have := hcc j q (by rw [← hq]; congr 1; omega)
            rw [show off + (a.eval y).cells.size + (j - (off + (a.eval y).cells.size)) = j by omega]
            simpa [Array.getD_eq_getD_getElem?] using this)
    have hru : (execOp a.eval o).run E.P w = .ok .skip (w.setCells b off (a.eval y).cells.toList) := by
      simp only [execOp, ho, hxv, Sem.run_bind, hrun, Result.andThen_ok, Sem.run_pure]
    unfold Oper.wp
    rw [hru]
    show K (a.put o.dst undef) _
    rw [hdst]
    exact hK _ _ ⟨ρ, hwr.put none hd fun hne => absurd rfl hne⟩
  | appM hx hm hn hy ht hd' he hs hb hb0 h1 h0 =>
    rename_i d t x y i n sz e xs ys td de
    have hxv := h.evR x; rw [hx] at hxv
    have hxv := (hxv.ms_inv _ _ _ hm).2 hn
    have hyv := h.evR y; rw [hy] at hyv
    obtain ⟨ya, ycap, hyv, _, _, hsz, hyc, hyl⟩ := hyv.c_inv.sl_inv
    obtain ⟨b, of, rfl, hyb, hyc⟩ := hyc h0
    obtain ⟨_, vs, hown, hvs⟩ := h.obj i _ hm
    obtain ⟨news, hnl, hnc, hn1, hnr⟩ := news_of h hsz hyl hyc h1
    have hu := Env.und ht; rw [hd'] at hu
    obtain ⟨hue, ti, hti, his, hib, z, hz, hzc⟩ := E.ok e de he
    have hbytes : (xs.length + ys.length) * ti.bytes ≤ 140737488355328 := by rw [hib, hn]; exact hb
    have hlen : xs.length + ys.length ≤ maxLen := by
      have : (n + ys.length) * 1 ≤ (n + ys.length) * de.bytes := Nat.mul_le_mul_left _ hb0
      simp only [maxLen]; omega
    have hzs : z.cells.size = sz := by
      have hl : z.cells.size = de.zero.length := by rw [← hzc]; simp
      rw [hl, E.zl e de he, hs]
    obtain ⟨v', w', hrun, hown', hg, hat⟩ := run_append_ownsV (P := E.P) w t o.type e ti z sz ti.bytes hu hti hz (by omega) rfl hzs hsz (ρ i) xs.length vs hown ⟨b, of, none⟩ ys.length ycap news hnl hnc hn1 hlen hbytes
    have hgrow := h.grow (some i) d sz e (Nat.lt_of_lt_of_le (hd d rfl) C.hn) (xs ++ ys) (ρ i) v' (vs ++ news) hsz ⟨xs, hm, rfl, fun _ => by simp; omega⟩ (fun hne => hF d (by
        have : Nat.beq i d = false := by
          cases hb : Nat.beq i d with
          | false => rfl
          | true => exact absurd (by rw [Nat.eq_of_beq_eq_true hb]) hne
        rw [this]; simp)) (by rw [List.length_append]; exact hown') hg (by
          rcases hat with h | h
          · exact .inl h
          · exact .inr (.inr h)) (fun L' hL' => elems_append hown.1
            (fun k q hq => ⟨(hvs k q hq).1, fun j y hj => ((hvs k q hq).2 j y hj).keep hL' (fun b' hb' hlt => hg.block b' hlt fun e' => hb' (.inr ⟨i, _, hm, by rw [blk_own hown]; exact e'.symm⟩))⟩)
            (fun k q hq => ⟨hyl k q hq, fun j y hj => (hnr k q hq j y hj).keep hL' (fun b' hb' hlt => hg.block b' hlt fun e' => hb' (.inr ⟨i, _, hm, by rw [blk_own hown]; exact e'.symm⟩))⟩))
    refine wp_val (u := v') (w' := w') ?_ ?_
    · simp only [execOp, ho, resolve, invoke, builtin, Sem.run_bind, Sem.run_pure, Result.andThen_ok, List.map_toArray, List.map_cons, List.map_nil, hxv, hyv, hrun]
    · rw [hdst]
      refine hK _ _ ⟨_, hgrow.put (some d) hd fun _ => .ms fun sz' e' xs' hm' => ?_⟩
      simp only [updM_same] at hm'; cases hm'
      exact ⟨by simp; omega, fun _ => (updV_same _ _ _).symm⟩
  | appN hx hy ht hd' he hs h0 hb hb0 h1 =>
    rename_i d t x y sz e ys td de
    have hxv := ev_int h hx
    have hyv := h.evR y; rw [hy] at hyv
    obtain ⟨ya, ycap, hyv, hyc1, _, hsz, hyc, hyl⟩ := hyv.c_inv.sl_inv
    have hu := Env.und ht; rw [hd'] at hu
    obtain ⟨hue, ti, hti, his, hib, z, hz, hzc⟩ := E.ok e de he
    have hzs : z.cells.size = sz := by
      have hl : z.cells.size = de.zero.length := by rw [← hzc]; simp
      rw [hl, E.zl e de he, hs]
    have hn := hF d (by simp)
    have fin : ∀ (v' : Value) (w' : World) (vs' : List Value), (Builtin.append_ #[t, t] o.type #[.slice none 0 0, a.eval y]).run E.P w = .ok v' w' → ownsV w' e sz v' ys.length vs' → w.grownBy w' none →
        (v'.ownBlock = none ∨ v'.ownBlock = some w.heap.size) →
        (∀ L', (∀ b, ¬ LL C s.m ρ b → b < w.heap.size → ¬ L' b) → ∀ (i : Nat) (x : CV), ys[i]? = some x → x.cells.length = sz ∧ ∀ (j : Nat) (y : CV), x.cells[j]? = some y → Rep w' L' (vs'.getD (i * sz + j) undef) y) → o.wp E.P a w K Q := by
      intro v' w' vs' hrun hown' hg hat hx'
      have hgrow := h.grow none d sz e (Nat.lt_of_lt_of_le (hd d rfl) C.hn) ys (.slice none 0 0) v' vs' hsz rfl (fun _ => hn) hown' hg (by
        rcases hat with h | h
        · exact .inr (.inl h)
        · exact .inr (.inr h)) hx'
      refine wp_val (u := v') (w' := w') ?_ ?_
      · simp only [execOp, ho, resolve, invoke, builtin, Sem.run_bind, Sem.run_pure, Result.andThen_ok, List.map_toArray, List.map_cons, List.map_nil, hxv, hrun]
      · rw [hdst]
        refine hK _ _ ⟨_, hgrow.put (some d) hd fun _ => .ms fun sz' e' xs' hm' => ?_⟩
        simp only [updM_same] at hm'; cases hm'
        exact ⟨Nat.le_refl _, fun _ => (updV_same _ _ _).symm⟩
    rcases Nat.eq_zero_or_pos ys.length with h00 | h00
    · have hys : ys = [] := List.eq_nil_of_length_eq_zero h00
      subst hys
      have hb2 : w.ownsRow 0 e sz (.slice none 0 0) 0 [] := World.ownsRow_nil w 0 e sz
      cases ya with
      | none =>
        refine fin (.slice none 0 0) w [] (by rw [hyv]; exact run_append_nilsrc w ht hd' he none 0 0 ycap (Nat.le_refl _)) (ownsV_of hb2) ⟨rfl, rfl, rfl, Nat.le_refl _, fun _ _ _ => rfl⟩ (.inl rfl) (fun L' _ i x hx => by simp at hx)
      | some ad =>
        obtain ⟨v', w', hrun, hown', hg, hnil, hat⟩ := run_append_own_at (P := E.P) w 0 t o.type e ti z sz ti.bytes hu hti hz (by omega) rfl hzs hsz (.slice none 0 0) 0 [] hb2 ad 0 ycap [] (by simp) (fun j u hu => by simp at hu) (fun u hu => by simp at hu) (by simp [maxLen]) (by simp) (Nat.zero_le _)
        have hv' := hnil.2 ⟨rfl, rfl⟩
        subst hv'
        refine fin (.slice none 0 0) w' [] (by rw [hyv]; exact hrun) (ownsV_nil w' e sz) hg (.inl rfl) (fun L' _ i x hx => by simp at hx)
    · obtain ⟨b, of, rfl, hyb, hyc⟩ := hyc h00
      obtain ⟨news, hnl, hnc, hn1, hnr⟩ := news_of h hsz hyl hyc h1
      have hlen : 0 + ys.length ≤ maxLen := by
        have : ys.length * 1 ≤ ys.length * de.bytes := Nat.mul_le_mul_left _ hb0
        simp only [maxLen]; omega
      obtain ⟨v', w', hrun, hown', hg, _, hat⟩ := run_append_own_at (P := E.P) w 0 t o.type e ti z sz ti.bytes hu hti hz (by omega) rfl hzs hsz (.slice none 0 0) 0 [] (World.ownsRow_nil w 0 e sz) ⟨b, of, none⟩ ys.length ycap news hnl hnc hn1 hlen (by rw [hib]; simpa using hb) (Nat.zero_le _)
      simp only [Nat.zero_add, List.nil_append] at hown'
      refine fin v' w' news (by rw [hyv]; exact hrun) (ownsV_of hown') hg hat (fun L' hL' k q hq => ⟨hyl k q hq, fun j y hj => (hnr k q hq j y hj).keep hL' (fun b' hb' hlt => hg.block b' hlt (by simp [Value.ownBlock]))⟩)
  | mkM hx hy hnc ht hd' he hz hs hb hc =>
    rename_i d t x y e k k' n c td de z
    have hn := hF d (by simp)
    have hu := Env.und ht; rw [hd'] at hu
    obtain ⟨hue, i, hi, his, hib, z', hz', hzc⟩ := E.ok e de he
    have hz1 : z'.cells = #[z] := by apply Array.ext'; rw [hzc, hz]
    have hbb : (i.bytes : Int) * (c : Int) ≤ 281474976710656 := by
      rw [hib]
      have hcc : ((de.bytes * c : Nat) : Int) = (de.bytes : Int) * (c : Int) := by simp
      rw [← hcc, Nat.mul_comm]; omega
    have hrun := run_make (P := E.P) w t e i z' hu hi hz' k k' n c (by omega) (by omega) hbb (by omega)
    rw [his, hs, hz1] at hrun
    simp only [Int.toNat_natCast, Nat.mul_one] at hrun
    have hown : (w.alloc (.cells (madeCells #[z] c) e)).ownsRow 0 e 1 (.slice (some ⟨w.heap.size, 0, none⟩) n c) (List.replicate n (CV.v z)).length (List.replicate n z) := by
      refine ⟨by simp, .inr ⟨w.heap.size, c, madeCells #[z] c, by simp, Nat.zero_le _, heap_alloc_new w _, by simpa using hnc, by simp only [maxLen]; omega, by simp [madeCells], ?_⟩⟩
      apply List.ext_getElem
      · simp [madeCells]; omega
      · intro q h1 h2
        simp [madeCells, Nat.mod_one]
    have hgrow := h.grow none d 1 e (Nat.lt_of_lt_of_le (hd d rfl) C.hn) (List.replicate n (CV.v z)) (.slice none 0 0) (.slice (some ⟨w.heap.size, 0, none⟩) n c) (List.replicate n z) (w' := w.alloc (.cells (madeCells #[z] c) e)) (by omega) rfl (fun _ => hn) (ownsV_of hown)
      ⟨rfl, rfl, rfl, by simp, fun b hb _ => Below.heap_alloc w _ b hb⟩ (.inr (.inr rfl)) (fun L' _ q x hq => by
        obtain ⟨hql, hqe⟩ := List.getElem?_eq_some_iff.1 hq
        simp at hqe hql; subst hqe
        refine ⟨rfl, fun j y hy => ?_⟩
        have hj0 : j = 0 := by have := (List.getElem?_eq_some_iff.1 hy).1; simp [CV.cells] at this; omega
        subst hj0
        simp [CV.cells] at hy; subst hy
        rw [show (List.replicate n z).getD (q * 1 + 0) undef = z by simp [List.getD, hql]]
        exact .v z)
    refine wp_val (u := .slice (some ⟨w.heap.size, 0, none⟩) n c) (w' := w.alloc (.cells (madeCells #[z] c) e)) (by simp [execOp, ho, ev_int h hx, ev_int h hy, hrun]) ?_
    rw [hdst]
    refine hK _ _ ⟨_, hgrow.put (some d) hd fun _ => .ms fun sz' e' xs' hm' => ?_⟩
    simp only [updM_same] at hm'; cases hm'
    exact ⟨by simp, fun _ => (updV_same _ _ _).symm⟩
  | storeE hx hm hn hk ht hy hz h1 hl hb he =>
    rename_i t x y i n sz k off e xs zs x0 x1 ys d R1
    have hxv := h.evR x; rw [hx] at hxv
    obtain ⟨_, b, p, cap, hρ, hxv⟩ := (hxv.el_inv _ _ _ hm).2 hn
    obtain ⟨h0, vs, hown, hvs⟩ := h.obj i _ hm
    obtain ⟨hx0, _⟩ := hvs k x0 hk
    have hkl : k < xs.length := (List.getElem?_eq_some_iff.1 hk).1
    have hks : k * sz + sz ≤ xs.length * sz := by
      calc k * sz + sz = (k + 1) * sz := by rw [Nat.succ_mul]
        _ ≤ xs.length * sz := Nat.mul_le_mul_right _ (by omega)
    obtain ⟨hys, hyr⟩ := Cells.sound h (h.evR y) hy
    rcases hown.2 with ⟨hu, he0⟩ | ⟨g, p', cap', cur, hu, hgg, hnc, hcm, hcs, htake⟩
    · omega
    rw [hρ] at hu
    simp only [Value.slice.injEq, Option.some.injEq, Addr.mk.injEq, and_true] at hu
    obtain ⟨⟨rfl, rfl⟩, hnx, rfl⟩ := hu
    have hcl : xs.length * sz ≤ cap * sz := Nat.mul_le_mul_right _ hnc
    have hzl : ys.length = zs.length := hz.1
    have hrz : ∀ (j : Nat) (c : CV), zs[j]? = some c → Rep w (LL C s.m ρ) ((a.eval y).cells.getD j undef) c := by
      intro j c hc
      have hj : j < ys.length := by rw [hzl]; exact (List.getElem?_eq_some_iff.1 hc).1
      exact (hz.2 j _ c (List.getElem?_eq_getElem hj) hc).rep _ (hyr j _ (List.getElem?_eq_getElem hj))
    have hone : ∀ u ∈ (a.eval y).cells.toList, u.oneCell' = true := by
      intro u hu
      obtain ⟨j, hj⟩ := List.mem_iff_getElem?.1 hu
      have hjl : j < zs.length := by rw [← hzl, ← hys]; simpa using (List.getElem?_eq_some_iff.1 hj).1
      have hr := hrz j _ (List.getElem?_eq_getElem hjl)
      have e1 : (a.eval y).cells.getD j undef = u := by simp [Array.getD_eq_getD_getElem?] at hj ⊢; rw [hj]; rfl
      rw [e1] at hr
      exact CV.one_sound hr (by rw [List.all_eq_true] at h1; exact h1 _ (List.getElem_mem hjl))
    have hszd : (a.eval y).cells.size = d.sz := by rw [hys, hzl, hl]
    have hrun := run_storeAt' ht w b (p + (k * sz + off)) (a.eval y) hszd cur e hgg (by omega) hone
    obtain ⟨hblk, hkeep⟩ := setCells_block w b (a.eval y).cells.toList (p + (k * sz + off)) cur e hgg (by simp; omega)
    have hlen : (a.eval y).cells.toList.length = zs.length := by simp; omega
    have hwr := h.write i (.arr sz e xs) (.arr sz e (xs.set k x1)) hm (b := b) (by rw [hρ]; rfl) hkeep (.inr ⟨_, _, _, _, _, rfl, rfl, by simp⟩) (fun hmv hmc => by
      refine ⟨h0, vs.take (k * sz + off) ++ (a.eval y).cells.toList ++ vs.drop (k * sz + off + zs.length), ⟨?_, .inr ⟨b, p, cap, _, by rw [hρ, List.length_set, hn], hblk, by simpa using hnc, hcm, ?_, ?_⟩⟩, ?_⟩
      · have := hown.1; simp; omega
      · simp; omega
      · rw [← htake]
        simp only [List.length_set]
        apply List.ext_getElem?
        intro q
        have hxl : ((cur.toList.drop p).take (xs.length * sz)).length = xs.length * sz := by simp; omega
        simp only [List.getElem?_take, List.getElem?_drop, List.getElem?_append, List.length_append, List.length_take, List.length_drop, Array.length_toList, hxl]
        repeat' split
        all_goals first | rfl | omega | (congr 1; omega) | (rw [List.getElem?_eq_none (by simp; omega)])
      · intro q c hq
        have hvl := hown.1
        by_cases hqk : q = k
        · subst hqk
          rw [List.getElem?_set_self hkl] at hq
          cases hq
          have hx1 : x1.cells.length = sz := by rw [he]; simp; omega
          refine ⟨hx1, fun j c hc => ?_⟩
          have hjs : j < sz := by rw [← hx1]; exact (List.getElem?_eq_some_iff.1 hc).1
          rw [he] at hc
          simp only [List.getElem?_append, List.getElem?_take, List.getElem?_drop, List.length_append, List.length_take] at hc
          rw [show min off x0.cells.length = off by omega] at hc
          simp only [List.getD, List.getElem?_append, List.getElem?_take, List.getElem?_drop, List.length_append, List.length_take, Array.length_toList]
          rw [show min (q * sz + off) vs.length = q * sz + off by omega]
          by_cases hj : j < off
          · rw [if_pos (by omega), if_pos (by omega), if_pos hj] at hc
            rw [if_pos (by omega), if_pos (by omega), if_pos (by omega)]
            have := (hvs q x0 hk).2 j c hc
            simp only [List.getD] at this
            exact hmc _ _ this
          · by_cases hj2 : j < off + zs.length
            · rw [if_pos (by omega), if_neg hj] at hc
              rw [if_pos (by omega), if_neg (by omega)]
              have := hrz (j - off) c hc
              rw [show q * sz + j - (q * sz + off) = j - off by omega]
              have e2 : (a.eval y).cells.toList[j - off]?.getD undef = (a.eval y).cells.getD (j - off) undef := by simp [Array.getD_eq_getD_getElem?]
              rw [e2]; exact hmc _ _ this
            · rw [if_neg (by omega)] at hc
              rw [if_neg (by omega)]
              have := (hvs q x0 hk).2 j c (by rw [← hc]; congr 1; omega)
              simp only [List.getD] at this
              rw [show q * sz + off + zs.length + (q * sz + j - (q * sz + off + (a.eval y).cells.size)) = q * sz + j by omega]
              exact hmc _ _ this
        · rw [List.getElem?_set_ne (by omega)] at hq
          obtain ⟨hc1, hc2⟩ := hvs q c hq
          refine ⟨hc1, fun j c' hc' => ?_⟩
          have hjs : j < sz := by rw [← hc1]; exact (List.getElem?_eq_some_iff.1 hc').1
          have hql : q < xs.length := (List.getElem?_eq_some_iff.1 hq).1
          have := hc2 j c' hc'
          simp only [List.getD] at this ⊢
          rw [show (vs.take (k * sz + off) ++ (a.eval y).cells.toList ++ vs.drop (k * sz + off + zs.length))[q * sz + j]? = vs[q * sz + j]? from ?_]
          · exact hmc _ _ this
          · simp only [List.getElem?_append, List.getElem?_take, List.getElem?_drop, List.length_append, List.length_take, Array.length_toList]
            rw [show min (k * sz + off) vs.length = k * sz + off by omega]
            by_cases hlt : q < k
            · have : q * sz + sz ≤ k * sz := by
                calc q * sz + sz = (q + 1) * sz := by rw [Nat.succ_mul]
                  _ ≤ k * sz := Nat.mul_le_mul_right _ (by omega)
              rw [if_pos (by omega), if_pos (by omega), if_pos (by omega)]
            · have : k * sz + sz ≤ q * sz := by
                calc k * sz + sz = (k + 1) * sz := by rw [Nat.succ_mul]
                  _ ≤ q * sz := Nat.mul_le_mul_right _ (by omega)
              rw [if_neg (by omega)]
              congr 1; omega)
    have hru : (execOp a.eval o).run E.P w = .ok .skip (w.setCells b (p + (k * sz + off)) (a.eval y).cells.toList) := by
      simp only [execOp, ho, hxv, Sem.run_bind, hrun, Result.andThen_ok, Sem.run_pure]
    unfold Oper.wp
    rw [hru]
    show K (a.put o.dst undef) _
    rw [hdst]
    exact hK _ _ ⟨ρ, hwr.put none hd fun hne => absurd rfl hne⟩
  | callO hc hx hm hnb hlt hp =>
    refine wp_own h hc hx hm hnb hlt hF hp ho fun u w' ρ' hst hu => ?_
    rw [hdst]
    exact hK _ _ ⟨ρ', hst.put dst hd fun _ => hu⟩
  | run xs hx hr =>
    obtain ⟨u, w', h1, h2, h3⟩ := hr w (LL C s.m ρ) a.eval o (fun b hb => h.live_lt hb) ho fun p hp => by
      have := h.evR p.1; rw [(hx p hp).1] at this; exact this.c_inv
    refine wp_val h1 ?_
    rw [hdst]
    exact hK _ _ ⟨ρ, (h.world h2).put dst hd fun _ => .c h3⟩
  | runC xs hx hr =>
    obtain ⟨u, w', h1, h2, h3⟩ := hr w (LL C s.m ρ) a.eval o (fun b hb => h.live_lt hb) ho fun p hp => (hx p hp).1.rep _ (h.evR p.1)
    refine wp_val h1 ?_
    rw [hdst]
    exact hK _ _ ⟨ρ, (h.world h2).put dst hd fun _ => .c h3⟩
  | nilL hx hm =>
    rename_i x i off cells
    have hv := h.evR x; rw [hx] at hv
    obtain ⟨b, hρ, he⟩ := hv.loc_inv _ hm
    refine wp_val (u := a.eval x) (w' := w) (by simp [execOp, ho, he]) ?_
    rw [hdst]
    exact hK _ _ ⟨ρ, h.put dst hd fun _ => hv⟩
  | nilE hx hm hn =>
    rename_i x i n sz k off sz' e xs
    have hv := h.evR x; rw [hx] at hv
    obtain ⟨_, b, p, cap, hρ, he⟩ := (hv.el_inv _ _ _ hm).2 hn
    refine wp_val (u := a.eval x) (w' := w) (by simp [execOp, ho, he]) ?_
    rw [hdst]
    exact hK _ _ ⟨ρ, h.put dst hd fun _ => hv⟩
  | idxL hx hm hi h0 hlt ht hd' he =>
    rename_i t x ix i off len e cells k n d de
    have hv := h.evR x; rw [hx] at hv
    obtain ⟨b, hρ, hv⟩ := hv.loc_inv _ hm
    have hu := Env.und ht; rw [hd'] at hu
    refine wp_val (u := .pointer (some ⟨b, off + n.toNat * de.sz, none⟩)) (w' := w) ?_ ?_
    · simp [execOp, ho, hv, ev_int h hi, Instr.indexAt, run_underlying hu, Instr.sureAddr, asIntOf, h0, hlt, Env.size he, add_lit']
    · rw [hdst]
      exact hK _ _ ⟨ρ, h.put dst hd fun _ => .loc fun cells' hc => ⟨b, hρ, rfl⟩⟩
  | eqNL hop hx hm hy ht hd' =>
    rename_i op t u x y i off e cells d
    have hv := h.evR x; rw [hx] at hv
    obtain ⟨b, hρ, hv⟩ := hv.loc_inv _ hm
    have hu := Env.und ht; rw [hd'] at hu
    refine wp_val (u := .bool (op == .neq)) (w' := w) ?_ ?_
    · simp only [execOp, ho, hv, ev_int h hy, Sem.run_bind, guard_nil, Result.andThen_ok, run_eqNil _ hop hu, Sem.run_pure]
    · rw [hdst]
      exact hK _ _ ⟨ρ, h.put dst hd fun _ => .c (.v _)⟩
  | bsM ht hd' he hs h0 hi hx hl hb =>
    rename_i d t e sz parts xs td de
    have hn := hF d (by simp)
    have h0' : 0 < sz := by
      rcases Nat.eq_zero_or_pos sz with e | e
      · rw [e] at h0; cases h0
      · exact e
    obtain ⟨out, hrun, hos, hrep⟩ := run_bslice h ht hd' he hs h0 hi hx hl hb ho
    have hmax : xs.length ≤ maxLen := by
      have : xs.length * 1 ≤ xs.length * sz := Nat.mul_le_mul_left _ h0'
      simp only [maxLen]; omega
    have hown : (w.alloc (.cells out e)).ownsRow 0 e sz (.slice (some ⟨w.heap.size, 0, none⟩) xs.length xs.length) xs.length out.toList := by
      refine ⟨by simpa using hos, .inr ⟨w.heap.size, xs.length, out, rfl, Nat.zero_le _, heap_alloc_new w _, Nat.le_refl _, hmax, hos, ?_⟩⟩
      rw [List.take_of_length_le (by simp; omega)]
    have hgrow := h.grow none d sz e (Nat.lt_of_lt_of_le (hd d rfl) C.hn) xs (.slice none 0 0) (.slice (some ⟨w.heap.size, 0, none⟩) xs.length xs.length) out.toList (w' := w.alloc (.cells out e)) h0' rfl (fun _ => hn) (ownsV_of hown)
      ⟨rfl, rfl, rfl, by simp, fun b hb _ => Below.heap_alloc w _ b hb⟩ (.inr (.inr rfl)) (fun L' hL q x hq => ⟨(hl x (List.mem_of_getElem? hq)).1, fun j y hy => by
        have := hrep q x hq j y hy
        rw [show out.toList.getD (q * sz + j) undef = out.getD (q * sz + j) undef by simp [List.getD, Array.getD_eq_getD_getElem?]]
        exact this.keep (fun b hb hlt => hL b hb hlt) (fun b _ hb => Below.heap_alloc w _ b hb)⟩)
    refine wp_val hrun ?_
    rw [hdst]
    refine hK _ _ ⟨_, hgrow.put (some d) hd fun _ => .ms fun sz' e' xs' hm' => ?_⟩
    simp only [updM_same] at hm'; cases hm'
    exact ⟨Nat.le_refl _, fun _ => (updV_same _ _ _).symm⟩
  | vwM hx hm hn h0 ht hd' he hs' hlo hhi hmx hlh hhc hcc =>
    rename_i t x lo hi mx i n sz e e' l hh c xs d de
    have hxv := h.evR x; rw [hx] at hxv
    have hxv := (hxv.ms_inv _ _ _ hm).2 hn
    obtain ⟨hs0, b, of, cap, cur, vs, hρ, hgg, hnc, _⟩ := h.row hm hn h0
    rw [hρ] at hxv
    have hc1 : hh ≤ c.getD cap ∧ c.getD cap ≤ cap := by cases c <;> simp only [Option.getD_none, Option.getD_some] at hhc hcc ⊢ <;> omega
    have hrun := run_cut (w := w) ht hd' he (some ⟨b, of, none⟩) n cap (lo.map a.eval) (hi.map a.eval) (mx.map a.eval) l hh c
      (by cases lo with | none => exact hlo | some q => obtain ⟨k, z, h1, h2, h3⟩ := hlo; exact ⟨k, z, ev_int h h1, h2, h3⟩)
      (by cases hi with | none => exact ⟨hhi.1, by rw [hhi.2]; rfl⟩ | some q => obtain ⟨k, z, h1, h2, h3⟩ := hhi; exact ⟨k, z, ev_int h h1, h2, h3⟩)
      (by cases mx with | none => exact hmx | some q => obtain ⟨k, z, h1, h2, h3⟩ := hmx; exact ⟨k, z, ev_int h h1, h2, h3⟩) hlh hc1.1 hc1.2
    rw [hs'] at hrun
    refine wp_val (w' := w) (u := .slice (some ⟨b, if c.getD cap = l then of else of + l * sz, none⟩) (hh - l) (c.getD cap - l)) ?_ ?_
    · simp only [execOp, ho, hxv, Sem.run_bind, hrun, Result.andThen_ok, Sem.run_pure]
      congr 3
      split <;> simp [add_lit']
    · rw [hdst]
      refine hK _ _ ⟨ρ, h.put dst hd fun _ => .mv fun sz' e'' xs' hm' => ?_⟩
      rw [hm] at hm'; cases hm'
      exact ⟨by omega, fun _ => ⟨b, of, cap, hρ, hlh, hc1.1, hc1.2, rfl⟩⟩
  | vwV hx hm hn ht hd' he hs' hlo hhi hlh hhn =>
    rename_i t x lo hi i n sz e e' l hh h1 xs d de
    have hxv := h.evR x; rw [hx] at hxv
    obtain ⟨b, of, cap, hρ, _, hc1, _, hxv⟩ := (hxv.mv_inv _ _ _ hm).2 hn
    have hnc : n ≤ cap := by
      rcases Nat.eq_zero_or_pos n with h0 | h0
      · omega
      · obtain ⟨_, b', o', cap', cur, vs, hρ', _, hnc, _⟩ := h.row hm hn h0
        rw [hρ] at hρ'; cases hρ'; exact hnc
    have hxv : a.eval x = .slice (some ⟨b, of, none⟩) h1 cap := by
      rw [hxv]; simp
    have hrun := run_cut (w := w) ht hd' he (some ⟨b, of, none⟩) h1 cap (lo.map a.eval) (hi.map a.eval) none l hh none
      (by cases lo with | none => exact hlo | some q => obtain ⟨k, z, h1, h2, h3⟩ := hlo; exact ⟨k, z, ev_int h h1, h2, h3⟩)
      (by cases hi with | none => exact ⟨hhi, rfl⟩ | some q => obtain ⟨k, z, h1, h2, h3⟩ := hhi; exact ⟨k, z, ev_int h h1, h2, h3⟩) rfl hlh (by simp; omega) (by simp)
    rw [hs'] at hrun
    simp only [Option.getD_none] at hrun
    refine wp_val (w' := w) (u := .slice (some ⟨b, if cap = l then of else of + l * sz, none⟩) (hh - l) (cap - l)) ?_ ?_
    · simp only [execOp, ho, hxv, Sem.run_bind, Option.map_none, hrun, Result.andThen_ok, Sem.run_pure]
      congr 3
      split <;> simp [add_lit']
    · rw [hdst]
      refine hK _ _ ⟨ρ, h.put dst hd fun _ => .mv fun sz' e'' xs' hm' => ?_⟩
      rw [hm] at hm'; cases hm'
      exact ⟨by omega, fun _ => ⟨b, of, cap, hρ, hlh, by simp; omega, by simp, rfl⟩⟩
  | lnW hx hm hn ht hd' =>
    rename_i t x i n sz e e' l hh c xs d
    have hxv := h.evR x; rw [hx] at hxv
    obtain ⟨b, of, cap, hρ, _, _, _, hxv⟩ := (hxv.mv_inv _ _ _ hm).2 hn
    have hu := Env.und ht; rw [hd'] at hu
    refine wp_val (u := .int .i64 (hh - l : Nat)) (w' := w) ?_ ?_
    · simp [execOp, ho, resolve, invoke, builtin, hxv, Builtin.len_, run_underlying hu, goInt]
    · rw [hdst]
      exact hK _ _ ⟨ρ, h.put dst hd fun _ => .c (.v _)⟩
  | apVV hx hy hm hn ht hd' he hs' hb hb0 h1 hpq =>
    rename_i d t x y i n p q sz e xs td de
    have hxv := h.evR x; rw [hx] at hxv
    have hyv := h.evR y; rw [hy] at hyv
    obtain ⟨b, of, cap, hρ, _, _, hpc, hxv⟩ := (hxv.mv_inv _ _ _ hm).2 hn
    obtain ⟨b', of', cap', hρ', hqn, _, _, hyv⟩ := (hyv.mv_inv _ _ _ hm).2 hn
    rw [hρ] at hρ'; cases hρ'
    simp only [Option.getD_some, Option.getD_none] at hpc hxv hyv
    have hxv : a.eval x = .slice (some ⟨b, of, none⟩) p p := by rw [hxv]; simp
    obtain ⟨hs0, vs, hown, hvs⟩ := h.obj i _ hm
    rcases hown.2 with ⟨e1, e2⟩ | ⟨b', o', cap', cur, hu, hgg, hnc, hcm, hcs, htake⟩
    · rw [hρ] at e1; cases e1
    rw [hρ, hn] at hu; cases hu
    rw [hn] at hnc htake
    have hel : Elems w (LL C s.m ρ) sz xs vs := ⟨hown.1, hvs⟩
    have hvl : vs.length = n * sz := by rw [hown.1, hn]
    have hqs : q * sz ≤ n * sz := Nat.mul_le_mul_right _ hqn
    have hns : n * sz ≤ cap * sz := Nat.mul_le_mul_right _ hnc
    have hps : p * sz ≤ n * sz := Nat.mul_le_mul_right _ (by omega)
    have hnl : (vs.drop (q * sz)).length = (n - q) * sz := by rw [List.length_drop, hvl, Nat.sub_mul]
    have hnc' : ∀ j u, (vs.drop (q * sz))[j]? = some u → w.cell? ((⟨b, if cap = q then of else of + q * sz, none⟩ : Addr).add j) = some u := by
      intro j u hj
      have hjl := (List.getElem?_eq_some_iff.1 hj).1
      rw [hnl, Nat.sub_mul] at hjl
      have hne : ¬ cap = q := by
        intro e
        have : cap * sz = q * sz := by rw [e]
        omega
      rw [if_neg hne, add_lit', cell_of_row w b _ cur e (0, 0) hgg]
      rw [List.getElem?_drop, ← htake, List.getElem?_take] at hj
      split at hj
      · rw [List.getElem?_drop] at hj
        rw [← hj]; simp; congr 1; omega
      · cases hj
    have hu := Env.und ht; rw [hd'] at hu
    obtain ⟨hue, ti, hti, his, hib, z, hz, hzc⟩ := E.ok e de he
    have hzs : z.cells.size = sz := by
      have hl : z.cells.size = de.zero.length := by rw [← hzc]; simp
      rw [hl, E.zl e de he, hs']
    have hle : p + (n - q) ≤ n := by omega
    have hbytes : (p + (n - q)) * ti.bytes ≤ 140737488355328 := by
      rw [hib]; exact Nat.le_trans (Nat.mul_le_mul_right _ hle) hb
    have hown1 : ownsV w e sz (.slice (some ⟨b, of, none⟩) p p) p (vs.take (p * sz)) := by
      refine ⟨by rw [List.length_take, hvl, Nat.min_eq_left hps], .inr ⟨b, of, p, cur, rfl, hgg, Nat.le_refl _, by omega, by omega, ?_⟩⟩
      rw [← htake, List.take_take, Nat.min_eq_left hps]
    obtain ⟨v', w', hrun, hown', hg, hat⟩ := run_append_ownsV (P := E.P) w t o.type e ti z sz ti.bytes hu hti hz (by omega) rfl hzs hs0 _ p _ hown1 ⟨b, if cap = q then of else of + q * sz, none⟩ (n - q) (cap - q) _ hnl hnc'
      (fun u hu => hel.ones hs0 h1 u (List.mem_of_mem_drop hu)) (by omega) hbytes
    have hF' := hF d (by simp)
    have hid : i ≠ d := by
      intro e; subst e
      have := NoId.evx hF' x
      rw [hx] at this; cases this with | mv h => exact h rfl
    have hel2 : Elems w (LL C s.m ρ) sz (xs.take p ++ xs.drop q) (vs.take (p * sz) ++ vs.drop (q * sz)) := (hel.take (by omega)).append (hel.drop (by omega))
    have hlen2 : (xs.take p ++ xs.drop q).length = p + (n - q) := by simp; omega
    have hgrow := h.grow (some i) d sz e (Nat.lt_of_lt_of_le (hd d rfl) C.hn) (xs.take p ++ xs.drop q) (ρ i) v' (vs.take (p * sz) ++ vs.drop (q * sz)) hs0 ⟨xs, hm, rfl, fun e => absurd e hid⟩ (fun _ => hF') (by rw [hlen2]; exact hown') (by rw [hρ]; exact hg) (by
        rw [hρ]
        rcases hat with h | h
        · exact .inl h
        · exact .inr (.inr h)) (fun L' hL' k z hz => ⟨(hel2.2 k z hz).1, fun j y hj => ((hel2.2 k z hz).2 j y hj).keep hL' (fun b' hb' hlt => hg.block b' hlt fun e' => hb' (.inr ⟨i, _, hm, by rw [hρ]; exact e'.symm⟩))⟩)
    refine wp_val (u := v') (w' := w') ?_ ?_
    · simp only [execOp, ho, resolve, invoke, builtin, Sem.run_bind, Sem.run_pure, Result.andThen_ok, List.map_toArray, List.map_cons, List.map_nil, hxv, hyv, hrun]
    · rw [hdst]
      refine hK _ _ ⟨_, hgrow.put (some d) hd fun _ => .ms fun sz' e' xs' hm' => ?_⟩
      simp only [updM_same] at hm'; cases hm'
      exact ⟨by rw [hlen2]; exact Nat.le_refl _, fun _ => (updV_same _ _ _).symm⟩
  | apIn hx hy hm hn ht hd' he hs' h1 hpq =>
    rename_i t x y i n p q sz e xs td de
    have hxv := h.evR x; rw [hx] at hxv
    have hyv := h.evR y; rw [hy] at hyv
    obtain ⟨b, of, cap, hρ, _, _, hpc, hxv⟩ := (hxv.mv_inv _ _ _ hm).2 hn
    obtain ⟨b', of', cap', hρ', hqn, _, _, hyv⟩ := (hyv.mv_inv _ _ _ hm).2 hn
    rw [hρ] at hρ'; cases hρ'
    simp only [Option.getD_none] at hpc hxv hyv
    have hxv : a.eval x = .slice (some ⟨b, of, none⟩) p cap := by rw [hxv]; simp
    obtain ⟨hs0, vs, hown, hvs⟩ := h.obj i _ hm
    rcases hown.2 with ⟨e1, e2⟩ | ⟨b', o', cap', cur, hu, hgg, hnc, hcm, hcs, htake⟩
    · rw [hρ] at e1; cases e1
    rw [hρ, hn] at hu; cases hu
    rw [hn] at hnc htake
    have hel : Elems w (LL C s.m ρ) sz xs vs := ⟨hown.1, hvs⟩
    have hvl : vs.length = n * sz := by rw [hown.1, hn]
    have hqs : q * sz ≤ n * sz := Nat.mul_le_mul_right _ hqn
    have hns : n * sz ≤ cap * sz := Nat.mul_le_mul_right _ hnc
    have hps : p * sz ≤ n * sz := Nat.mul_le_mul_right _ (by omega)
    have hnl : (vs.drop (q * sz)).length = (n - q) * sz := by rw [List.length_drop, hvl, Nat.sub_mul]
    have hnc' : ∀ j u, (vs.drop (q * sz))[j]? = some u → w.cell? ((⟨b, if cap = q then of else of + q * sz, none⟩ : Addr).add j) = some u := by
      intro j u hj
      have hjl := (List.getElem?_eq_some_iff.1 hj).1
      rw [hnl, Nat.sub_mul] at hjl
      have hne : ¬ cap = q := by
        intro e
        have : cap * sz = q * sz := by rw [e]
        omega
      rw [if_neg hne, add_lit', cell_of_row w b _ cur e (0, 0) hgg]
      rw [List.getElem?_drop, ← htake, List.getElem?_take] at hj
      split at hj
      · rw [List.getElem?_drop] at hj
        rw [← hj]; simp; congr 1; omega
      · cases hj
    have hu := Env.und ht; rw [hd'] at hu
    obtain ⟨hue, ti, hti, his, hib, z, hz, hzc⟩ := E.ok e de he
    have his' : ti.size = sz := by omega
    have hqps : (p + (n - q)) * sz = p * sz + (n - q) * sz := Nat.add_mul _ _ _
    have hle2 : (p + (n - q)) * sz ≤ n * sz := Nat.mul_le_mul_right _ (by omega)
    have hrun := run_append_roomV (P := E.P) w t o.type e ti hu hti b of p cap cur hgg (.slice (some ⟨b, if cap = q then of else of + q * sz, none⟩) (n - q) (cap - q)) (n - q) (vs.drop (q * sz)) rfl
      (by rw [his']; exact run_firstCells_some (P := E.P) w sz (n - q) _ (n - q) (cap - q) _ hnl hnc') (fun k h => by cases h) (fun u hu => hel.ones hs0 h1 u (List.mem_of_mem_drop hu)) (by omega) (by rw [his', hnl]; omega)
    rw [his'] at hrun
    have hel2 : Elems w (LL C s.m ρ) sz (xs.take p ++ xs.drop q ++ xs.drop (p + (n - q))) (vs.take (p * sz) ++ vs.drop (q * sz) ++ vs.drop (p * sz + (vs.drop (q * sz)).length)) := by
      have := ((hel.take (k := p) (by omega)).append (hel.drop (k := q) (by omega))).append (hel.drop (k := p + (n - q)) (by omega))
      rw [hnl, ← hqps]; exact this
    have hst := h.splice hm hs0 (by rw [hρ, hn]) hgg (by omega) hcm hcs (by rw [hn]; exact htake) (p * sz) (vs.drop (q * sz)) (by rw [hnl, hn]; omega) (xs' := xs.take p ++ xs.drop q ++ xs.drop (p + (n - q))) (by simp; omega) hel2
    refine wp_val (u := .slice (some ⟨b, of, none⟩) (p + (n - q)) cap) (w' := w.setRow b (cur.toList.take (of + p * sz) ++ vs.drop (q * sz) ++ cur.toList.drop (of + p * sz + (vs.drop (q * sz)).length)).toArray) ?_ ?_
    · simp only [execOp, ho, resolve, invoke, builtin, Sem.run_bind, Sem.run_pure, Result.andThen_ok, List.map_toArray, List.map_cons, List.map_nil, hxv, hyv, hrun]
    · rw [hdst]
      refine hK _ _ ⟨ρ, hst.put dst hd fun _ => .mv fun sz' e' xs' hm' => ?_⟩
      simp only [updM_same] at hm'; cases hm'
      refine ⟨by simp; omega, fun _ => ⟨b, of, cap, hρ, Nat.zero_le _, by simp; omega, by simp, by simp⟩⟩
  | clV hx hm hn hlh hhn ht hd' he hs' hx0 h1 =>
    rename_i t x i n l hh sz e xs x0 td de
    have hxv := h.evR x; rw [hx] at hxv
    obtain ⟨b, of, cap, hρ, _, _, hpc, hxv⟩ := (hxv.mv_inv _ _ _ hm).2 hn
    simp only [Option.getD_none] at hpc hxv
    obtain ⟨hs0, vs, hown, hvs⟩ := h.obj i _ hm
    rcases hown.2 with ⟨e1, e2⟩ | ⟨b', o', cap', cur, hu, hgg, hnc, hcm, hcs, htake⟩
    · rw [hρ] at e1; cases e1
    rw [hρ, hn] at hu; cases hu
    rw [hn] at hnc htake
    have hel : Elems w (LL C s.m ρ) sz xs vs := ⟨hown.1, hvs⟩
    have hvl : vs.length = n * sz := by rw [hown.1, hn]
    have hns : n * sz ≤ cap * sz := Nat.mul_le_mul_right _ hnc
    have hls : l * sz ≤ n * sz := Nat.mul_le_mul_right _ (by omega)
    have hhs : hh * sz ≤ n * sz := Nat.mul_le_mul_right _ hhn
    have hu := Env.und ht; rw [hd'] at hu
    obtain ⟨z, hzr, hzc⟩ := Env.zero he w
    have hzs : z.cells.size = sz := by
      have hl : z.cells.size = de.zero.length := by rw [← hzc]; simp
      rw [hl, E.zl e de he, hs']
    have hnl : (Builtin.zeroCells z.cells (hh - l)).toList.length = (hh - l) * sz := by simp [Builtin.zeroCells, hzs]
    have hone : ∀ u ∈ (Builtin.zeroCells z.cells (hh - l)).toList, u.oneCell' = true := by
      have := (Elems.zeros (w := w) (L := fun _ => False) (x0 := x0) (hh - l) hzs hs0 (by rw [hx0, hzc])).ones hs0 (fun y hy c hc => by
        rw [List.eq_of_mem_replicate hy, hx0] at hc
        obtain ⟨q, hq, rfl⟩ := List.mem_map.1 hc
        exact List.all_eq_true.1 h1 q hq)
      exact this
    have hadd : (hh - l) * sz + l * sz = hh * sz := by rw [← Nat.add_mul]; congr 1; omega
    have hst0 := run_storeCells_at E.P b (of + l * sz) e (Builtin.zeroCells z.cells (hh - l)).toList 0 cur w hgg (by rw [hnl]; omega) hone
    simp only [Nat.add_zero] at hst0
    have hne : ¬ cap = l := by omega
    rw [if_neg hne] at hxv
    have hel2 : Elems w (LL C s.m ρ) sz (xs.take l ++ List.replicate (hh - l) x0 ++ xs.drop hh) (vs.take (l * sz) ++ (Builtin.zeroCells z.cells (hh - l)).toList ++ vs.drop (l * sz + (Builtin.zeroCells z.cells (hh - l)).toList.length)) := by
      have := ((hel.take (k := l) (by omega)).append (Elems.zeros (x0 := x0) (hh - l) hzs hs0 (by rw [hx0, hzc]))).append (hel.drop (k := hh) (by omega))
      rw [hnl, show l * sz + (hh - l) * sz = hh * sz by omega]; exact this
    have hst := h.splice hm hs0 (by rw [hρ, hn]) hgg (by omega) hcm hcs (by rw [hn]; exact htake) (l * sz) (Builtin.zeroCells z.cells (hh - l)).toList (by rw [hnl, hn]; omega) (xs' := xs.take l ++ List.replicate (hh - l) x0 ++ xs.drop hh) (by simp; omega) hel2
    obtain ⟨k, hk⟩ : ∃ k, hh - l = k + 1 := ⟨hh - l - 1, by omega⟩
    refine wp_val (u := .tuple #[]) (w' := w.setRow b (cur.toList.take (of + l * sz) ++ (Builtin.zeroCells z.cells (hh - l)).toList ++ cur.toList.drop (of + l * sz + (Builtin.zeroCells z.cells (hh - l)).toList.length)).toArray) ?_ ?_
    · have hcl : (Builtin.clear_ #[t] o.type #[.slice (some ⟨b, of + l * sz, none⟩) (hh - l) (cap - l)]).run E.P w = .ok (.tuple #[]) (w.setRow b (cur.toList.take (of + l * sz) ++ (Builtin.zeroCells z.cells (hh - l)).toList ++ cur.toList.drop (of + l * sz + (Builtin.zeroCells z.cells (hh - l)).toList.length)).toArray) := by
        rw [hk] at hst0 ⊢
        simp [Builtin.clear_, run_underlying hu, hzr, hst0]
      simp only [execOp, ho, resolve, invoke, builtin, Sem.run_bind, Sem.run_pure, Result.andThen_ok, List.map_toArray, List.map_cons, List.map_nil, hxv, hcl]
    · rw [hdst]
      exact hK _ _ ⟨ρ, hst.put dst hd fun _ => .any _⟩
end
end Go.AM

/- The abstract machine, part 14: what a step looks at, what it names. It speaks of whatever program. -/
namespace Go.AM
open Go Go.RowKit
set_option linter.unusedVariables false
set_option linter.unusedSimpArgs false

section
variable {E : Env} {m m' : Nat → Option Ob} {ev ev' : Operand → AV}

theorem One.loc_ {x : AV} {R : List Nat} (h : One m x R) (hm : ∀ i ∈ R, m' i = m i) : One m' x R := by
  cases h with
  | v h => exact .v h
  | fl b => exact .fl b
  | sl sz xs => exact .sl sz xs
  | ad cs => exact .ad cs
  | ms h hn => exact .ms (by rw [hm _ (by simp)]; exact h) hn
  | loc h => exact .loc (by rw [hm _ (by simp)]; exact h)
theorem Cells.loc_ {x : AV} {ys : List AV} {R : List Nat} (h : Cells m x ys R) (hm : ∀ i ∈ R, m' i = m i) : Cells m' x ys R := by
  cases h with
  | agg _ => exact .agg _
  | cagg cs => exact .cagg cs
  | one h => exact .one (h.loc_ hm)
theorem AllOne.loc_ {xs : List AV} {R : List Nat} (h : AllOne m xs R) : (∀ i ∈ R, m' i = m i) → AllOne m' xs R := by
  induction h with
  | nil => exact fun _ => .nil
  | cons h hs ih => exact fun hm => .cons (h.loc_ fun i hi => hm i (List.mem_append_left _ hi)) (ih fun i hi => hm i (List.mem_append_right _ hi))
theorem Fill.loc_ {fs : Array Field} {cells out : List AV} {parts : List (Nat × AV)} {R : List Nat} (h : Fill E m fs cells parts out R) : (∀ i ∈ R, m' i = m i) → Fill E m' fs cells parts out R := by
  induction h with
  | nil cells => exact fun _ => .nil cells
  | cons hf ht hc hl hb h ih => exact fun hm => .cons hf ht (hc.loc_ fun i hi => hm i (List.mem_append_left _ hi)) hl hb (ih fun i hi => hm i (List.mem_append_right _ hi))

theorem ToB.loc_ {xs : List AV} {cs : List CV} {R : List Nat} (h : ToB m xs cs R) : (∀ i ∈ R, m' i = m i) → ToB m' xs cs R := by
  induction h with
  | nil => exact fun _ => .nil
  | c hc hs ih => exact fun hm => .c hc (ih hm)
  | ms hm hn hs ih => exact fun h => .ms (by rw [h _ (by simp)]; exact hm) hn (ih fun i hi => h i (by simp [hi]))
  | agg hu hs ihu ih => exact fun hm => .agg (ihu fun i hi => hm i (List.mem_append_left _ hi)) (ih fun i hi => hm i (List.mem_append_right _ hi))
theorem map_ev {l : List Operand} (h : ∀ x ∈ l, ev' x = ev x) : l.map ev' = l.map ev := List.map_congr_left h
theorem map_ev2 {l : List (Nat × Operand)} (h : ∀ x ∈ l.map (·.2), ev' x = ev x) : (l.map fun p => (p.1, ev' p.2)) = l.map fun p => (p.1, ev p.2) :=
  List.map_congr_left fun p hp => by rw [h p.2 (List.mem_map.2 ⟨p, hp, rfl⟩)]
theorem map_ev3 {l : List (Nat × Operand)} (h : ∀ x ∈ l.map (·.2), ev' x = ev x) : (l.map fun p => ev' p.2) = l.map fun p => ev p.2 :=
  List.map_congr_left fun p hp => by rw [h p.2 (List.mem_map.2 ⟨p, hp, rfl⟩)]

theorem StepV.loc_ {op : Op} {v : AV} {R : List Nat} (h : StepV E m ev op v R) (he : ∀ x ∈ op.operands.toList, ev' x = ev x) (hm : ∀ i ∈ R, m' i = m i) : StepV E m' ev' op v R := by
  cases h with
  | move x => rw [← he x (by simp [Op.operands])]; exact .move x
  | assign x => rw [← he x (by simp [Op.operands])]; exact .assign x
  | pickT hc => rename_i c a b; rw [← he a (by simp [Op.operands])]; exact .pickT (by rw [he c (by simp [Op.operands])]; exact hc)
  | pickF hc => rename_i c a b; rw [← he b (by simp [Op.operands])]; exact .pickF (by rw [he c (by simp [Op.operands])]; exact hc)
  | loadL hx h2 ht hd hy => exact .loadL (by rw [he _ (by simp [Op.operands])]; exact hx) (by rw [hm _ (by simp)]; exact h2) ht hd hy
  | loadLA hx h2 ht hd hy => exact .loadLA (by rw [he _ (by simp [Op.operands])]; exact hx) (by rw [hm _ (by simp)]; exact h2) ht hd hy
  | loadC hx ht hd hy => exact .loadC (by rw [he _ (by simp [Op.operands])]; exact hx) ht hd hy
  | loadCA hx ht hd hy => exact .loadCA (by rw [he _ (by simp [Op.operands])]; exact hx) ht hd hy
  | loadE hx h2 hn hk ht hd hy => exact .loadE (by rw [he _ (by simp [Op.operands])]; exact hx) (by rw [hm _ (by simp)]; exact h2) hn hk ht hd hy
  | loadEA hx h2 hn hk ht hd hy => exact .loadEA (by rw [he _ (by simp [Op.operands])]; exact hx) (by rw [hm _ (by simp)]; exact h2) hn hk ht hd hy
  | fldL hx h2 ht hd hf h3 h0 => exact .fldL (by rw [he _ (by simp [Op.operands])]; exact hx) (by rw [hm _ (by simp)]; exact h2) ht hd hf h3 h0
  | fldC hx ht hd hf h3 h0 hl => exact .fldC (by rw [he _ (by simp [Op.operands])]; exact hx) ht hd hf h3 h0 hl
  | fldE hx h2 hn ht hd hf h3 h0 => exact .fldE (by rw [he _ (by simp [Op.operands])]; exact hx) (by rw [hm _ (by simp)]; exact h2) hn ht hd hf h3 h0
  | idxC hx hi h0 hy ht hd h3 hs => exact .idxC (by rw [he _ (by simp [Op.operands])]; exact hx) (by rw [he _ (by simp [Op.operands])]; exact hi) h0 hy ht hd h3 hs
  | idxM hx h2 hn hi h0 hlt ht hd h3 hs => exact .idxM (by rw [he _ (by simp [Op.operands])]; exact hx) (by rw [hm _ (by simp)]; exact h2) hn (by rw [he _ (by simp [Op.operands])]; exact hi) h0 hlt ht hd h3 hs
  | idxS hx hi h0 hc ht hd => exact .idxS (by rw [he _ (by simp [Op.operands])]; exact hx) (by rw [he _ (by simp [Op.operands])]; exact hi) h0 hc ht hd
  | lenC hx ht hd => exact .lenC (by rw [he _ (by simp [Op.operands, Call.operands])]; exact hx) ht hd
  | lenV hx ht hd => exact .lenV (by rw [he _ (by simp [Op.operands, Call.operands])]; exact hx) ht hd
  | lenM hx h2 hn ht hd => exact .lenM (by rw [he _ (by simp [Op.operands, Call.operands])]; exact hx) (by rw [hm _ (by simp)]; exact h2) hn ht hd
  | lenS hx ht hd => exact .lenS (by rw [he _ (by simp [Op.operands, Call.operands])]; exact hx) ht hd
  | binI hx hy hr => exact .binI (by rw [he _ (by simp [Op.operands])]; exact hx) (by rw [he _ (by simp [Op.operands])]; exact hy) hr
  | binR hx hy hr => exact .binR (by rw [he _ (by simp [Op.operands])]; exact hx) (by rw [he _ (by simp [Op.operands])]; exact hy) hr
  | binS hx hy hr => exact .binS (by rw [he _ (by simp [Op.operands])]; exact hx) (by rw [he _ (by simp [Op.operands])]; exact hy) hr
  | binSA hx hy hr => exact .binSA (by rw [he _ (by simp [Op.operands])]; exact hx) (by rw [he _ (by simp [Op.operands])]; exact hy) hr
  | binBE hx hy ht hd => exact .binBE (by rw [he _ (by simp [Op.operands])]; exact hx) (by rw [he _ (by simp [Op.operands])]; exact hy) ht hd
  | binBN hx hy ht hd => exact .binBN (by rw [he _ (by simp [Op.operands])]; exact hx) (by rw [he _ (by simp [Op.operands])]; exact hy) ht hd
  | binF hx hy ha hb hr => exact .binF (by rw [he _ (by simp [Op.operands])]; exact hx) (by rw [he _ (by simp [Op.operands])]; exact hy) ha hb hr
  | binFA hx hy ha hb => exact .binFA (by rw [he _ (by simp [Op.operands])]; exact hx) (by rw [he _ (by simp [Op.operands])]; exact hy) ha hb
  | unN hx => exact .unN (by rw [he _ (by simp [Op.operands])]; exact hx)
  | unG hx => exact .unG (by rw [he _ (by simp [Op.operands])]; exact hx)
  | conv hx ht hu hd => exact .conv (by rw [he _ (by simp [Op.operands])]; exact hx) ht hu hd
  | convF hx ht hu hd => exact .convF (by rw [he _ (by simp [Op.operands])]; exact hx) ht hu hd
  | convB hx ht hd h3 hde hu hd' => exact .convB (by rw [he _ (by simp [Op.operands])]; exact hx) ht hd h3 hde hu hd'
  | extract hx hy => exact .extract (by rw [he _ (by simp [Op.operands])]; exact hx) hy
  | build ht hd ha hf => exact .build ht hd ha (by rw [map_ev2 (ev := ev) (by simpa [Op.operands] using he)]; exact hf.loc_ hm)
  | slc hx ht hd h3 hs hlo hhi hlh hh =>
    rename_i t x lo hi sz e l h xs d de
    refine .slc (by rw [he _ (by simp [Op.operands])]; exact hx) ht hd h3 hs ?_ ?_ hlh hh
    · cases lo with
      | none => exact hlo
      | some o => simp only at hlo ⊢; rw [he o (by simp [Op.operands])]; exact hlo
    · cases hi with
      | none => exact hhi
      | some o => simp only at hhi ⊢; rw [he o (by simp [Op.operands])]; exact hhi
  | mkfun hc => exact .mkfun (by rw [map_ev (ev := ev) (by simpa [Op.operands] using he)]; exact hc)
  | mkfunC hc => exact .mkfunC (by rw [map_ev (ev := ev) (by simpa [Op.operands] using he)]; exact hc)
  | boxC hx hp h0 => exact .boxC (by rw [he _ (by simp [Op.operands])]; exact hx) hp h0
  | bslice ht hd h3 hs h0 hi hx hl hb => exact .bslice ht hd h3 hs h0 hi (by rw [map_ev3 (ev := ev) (by simpa [Op.operands] using he)]; exact hx) hl hb
  | mkslice hx hy ht hd h3 hz hs hb hn => exact .mkslice (by rw [he _ (by simp [Op.operands])]; exact hx) (by rw [he _ (by simp [Op.operands])]; exact hy) ht hd h3 hz hs hb hn
  | callP hc hx ha hp => exact .callP (by rw [he _ (by simp [Op.operands, Call.operands])]; exact hc) (by rw [map_ev (ev := ev) fun x hx => he x (by simp [Op.operands, Call.operands]; exact .inr (by simpa using hx))]; exact hx) ha hp
  | callF hc hx ha hp => exact .callF (by rw [he _ (by simp [Op.operands, Call.operands])]; exact hc) (by rw [map_ev (ev := ev) fun x hx => he x (by simp [Op.operands, Call.operands]; exact .inr (by simpa using hx))]; exact hx) ha hp
  | callX hc hx ha hp => exact .callX (by rw [he _ (by simp [Op.operands, Call.operands])]; exact hc) (by rw [map_ev (ev := ev) fun x hx => he x (by simp [Op.operands, Call.operands]; exact .inr (by simpa using hx))]; exact hx) ha hp
  | callB hc hx hp hs => exact .callB (by rw [he _ (by simp [Op.operands, Call.operands])]; exact hc) (by rw [map_ev (ev := ev) fun x hx => he x (by simp [Op.operands, Call.operands]; exact .inr (by simpa using hx))]; exact hx.loc_ hm) hp hs

theorem StepR.loc_ {dst : Option Tmp} {op : Op} {v : AV} {mw : List (Nat × Option Ob)} {R F : List Nat} (h : StepR E m ev dst op v mw R F) (he : ∀ x ∈ op.operands.toList, ev' x = ev x) (hm : ∀ i ∈ R, m' i = m i) :
    StepR E m' ev' dst op v mw R F := by
  cases h with
  | val h => exact .val (h.loc_ he hm)
  | box hc => exact .box (by rw [he _ (by simp [Op.operands])]; exact hc.loc_ hm)
  | alloc ht => exact .alloc ht
  | storeL hx h2 ht hy h1 hl hb =>
    exact .storeL (by rw [he _ (by simp [Op.operands])]; exact hx) (by rw [hm _ (by simp)]; exact h2) ht (by rw [he _ (by simp [Op.operands])]; exact hy.loc_ fun i hi => hm i (by simp [hi])) (h1.loc_ fun i hi => hm i (by simp [hi])) hl hb
  | appM hx h2 hn hy ht hd h3 hs hb hb0 h1 h0 =>
    exact .appM (by rw [he _ (by simp [Op.operands, Call.operands])]; exact hx) (by rw [hm _ (by simp)]; exact h2) hn (by rw [he _ (by simp [Op.operands, Call.operands])]; exact hy) ht hd h3 hs hb hb0 h1 h0
  | appN hx hy ht hd h3 hs h0 hb hb0 h1 =>
    exact .appN (by rw [he _ (by simp [Op.operands, Call.operands])]; exact hx) (by rw [he _ (by simp [Op.operands, Call.operands])]; exact hy) ht hd h3 hs h0 hb hb0 h1
  | mkM hx hy hnc ht hd h3 hz hs hb hc =>
    exact .mkM (by rw [he _ (by simp [Op.operands])]; exact hx) (by rw [he _ (by simp [Op.operands])]; exact hy) hnc ht hd h3 hz hs hb hc
  | storeE hx h2 hn hk ht hy hz h1 hl hb hee =>
    exact .storeE (by rw [he _ (by simp [Op.operands])]; exact hx) (by rw [hm _ (by simp)]; exact h2) hn hk ht (by rw [he _ (by simp [Op.operands])]; exact hy.loc_ fun i hi => hm i (by simp [hi])) hz h1 hl hb hee
  | callO hc hx h2 hnb hlt hp =>
    exact .callO (by rw [he _ (by simp [Op.operands, Call.operands])]; exact hc) (by rw [map_ev (ev := ev) fun x hx => he x (by simp [Op.operands, Call.operands]; exact .inr (by simpa using hx))]; exact hx)
      (fun p hp => by rw [hm _ (List.mem_map.2 ⟨p, hp, rfl⟩)]; exact h2 p hp) hnb hlt hp
  | run xs hx h => exact .run xs (fun p hp => ⟨by rw [he _ (hx p hp).2]; exact (hx p hp).1, (hx p hp).2⟩) h
  | runC xs hx h => exact .runC xs (fun p hp => ⟨by rw [he _ (hx p hp).2]; exact (hx p hp).1, (hx p hp).2⟩) h
  | nilL hx h2 => exact .nilL (by rw [he _ (by simp [Op.operands])]; exact hx) (by rw [hm _ (by simp)]; exact h2)
  | nilE hx h2 hn => exact .nilE (by rw [he _ (by simp [Op.operands])]; exact hx) (by rw [hm _ (by simp)]; exact h2) hn
  | idxL hx h2 hi h0 hlt ht hd h3 => exact .idxL (by rw [he _ (by simp [Op.operands])]; exact hx) (by rw [hm _ (by simp)]; exact h2) (by rw [he _ (by simp [Op.operands])]; exact hi) h0 hlt ht hd h3
  | eqNL hop hx h2 hy ht hd => exact .eqNL hop (by rw [he _ (by simp [Op.operands])]; exact hx) (by rw [hm _ (by simp)]; exact h2) (by rw [he _ (by simp [Op.operands])]; exact hy) ht hd
  | bsM ht hd h3 hs h0 hi hx hl hb => exact .bsM ht hd h3 hs h0 hi (by rw [map_ev3 (ev := ev) fun x hx => he x (by simpa [Op.operands] using hx)]; exact hx) hl hb
  | vwM hx h2 hn h0 ht hd h3 hs hlo hhi hmx hlh hhc hcc =>
    rename_i t x lo hi mx i n sz e e' l h c xs d de
    refine .vwM (by rw [he _ (by simp [Op.operands])]; exact hx) (by rw [hm _ (by simp)]; exact h2) hn h0 ht hd h3 hs ?_ ?_ ?_ hlh hhc hcc
    · cases lo with
      | none => exact hlo
      | some o => simp only at hlo ⊢; rw [he o (by simp [Op.operands])]; exact hlo
    · cases hi with
      | none => exact hhi
      | some o => simp only at hhi ⊢; rw [he o (by simp [Op.operands])]; exact hhi
    · cases mx with
      | none => exact hmx
      | some o => simp only at hmx ⊢; rw [he o (by simp [Op.operands])]; exact hmx
  | vwV hx h2 hn ht hd h3 hs hlo hhi hlh hhn =>
    rename_i t x lo hi i n sz e e' l h h1 xs d de
    refine .vwV (by rw [he _ (by simp [Op.operands])]; exact hx) (by rw [hm _ (by simp)]; exact h2) hn ht hd h3 hs ?_ ?_ hlh hhn
    · cases lo with
      | none => exact hlo
      | some o => simp only at hlo ⊢; rw [he o (by simp [Op.operands])]; exact hlo
    · cases hi with
      | none => exact hhi
      | some o => simp only at hhi ⊢; rw [he o (by simp [Op.operands])]; exact hhi
  | lnW hx h2 hn ht hd => exact .lnW (by rw [he _ (by simp [Op.operands, Call.operands])]; exact hx) (by rw [hm _ (by simp)]; exact h2) hn ht hd
  | apVV hx hy h2 hn ht hd h3 hs hb hb0 h1 hpq => exact .apVV (by rw [he _ (by simp [Op.operands, Call.operands])]; exact hx) (by rw [he _ (by simp [Op.operands, Call.operands])]; exact hy) (by rw [hm _ (by simp)]; exact h2) hn ht hd h3 hs hb hb0 h1 hpq
  | apIn hx hy h2 hn ht hd h3 hs h1 hpq => exact .apIn (by rw [he _ (by simp [Op.operands, Call.operands])]; exact hx) (by rw [he _ (by simp [Op.operands, Call.operands])]; exact hy) (by rw [hm _ (by simp)]; exact h2) hn ht hd h3 hs h1 hpq
  | clV hx h2 hn hlh hhn ht hd h3 hs hx0 h1 => exact .clV (by rw [he _ (by simp [Op.operands, Call.operands])]; exact hx) (by rw [hm _ (by simp)]; exact h2) hn hlh hhn ht hd h3 hs hx0 h1
end
end Go.AM

/- The abstract machine, part 15: regions, in whatever order they run. It speaks of whatever program. -/
namespace Go.AM
open Go Go.RowKit
set_option linter.unusedVariables false
set_option linter.unusedSimpArgs false

section
variable {E : Env} {C : Ctx}

/-! ### what a step names -/
theorem NoId.ev_ {s : AS} {d : Nat} (h : s.noId d) (x : Operand) : NoId d (s.ev x) := by
  cases x with
  | tmp t => exact h.1 t
  | const v => exact .c _
  | global g => exact .any
  | func f => exact .c _
theorem NoId.sub {d : Nat} {xs : List AV} {a b : Nat} (h : ∀ (j : Nat) (y : AV), xs[j]? = some y → NoId d y) : NoId d (.agg ((xs.drop a).take b)) := by
  refine .agg fun j y hy => ?_
  rw [List.getElem?_take] at hy
  split at hy
  · rw [List.getElem?_drop] at hy; exact h _ y hy
  · cases hy
theorem Cells.noId {m : Nat → Option Ob} {x : AV} {ys : List AV} {R : List Nat} {d : Nat} (h : Cells m x ys R) (hx : NoId d x) : ∀ (j : Nat) (y : AV), ys[j]? = some y → NoId d y := by
  cases h with
  | agg _ => cases hx with | agg h => exact h
  | cagg cs =>
    intro j y hy
    rw [List.getElem?_map] at hy
    obtain ⟨z, _, rfl⟩ := Option.map_eq_some_iff.1 hy
    exact .c z
  | one _ =>
    intro j y hy
    cases j with
    | zero => simp at hy; subst hy; exact hx
    | succ j => simp at hy
theorem setMany_noId {d off : Nat} {cells ys : List AV} (h1 : ∀ (j : Nat) (y : AV), cells[j]? = some y → NoId d y) (h2 : ∀ (j : Nat) (y : AV), ys[j]? = some y → NoId d y) :
    ∀ (j : Nat) (y : AV), (setMany cells off ys)[j]? = some y → NoId d y := by
  intro j y hy
  have hm := List.mem_of_getElem? hy
  unfold setMany at hm
  rcases List.mem_append.1 hm with hm | hm
  · rcases List.mem_append.1 hm with hm | hm
    · obtain ⟨k, hk⟩ := List.mem_iff_getElem?.1 (List.mem_of_mem_take hm); exact h1 k y hk
    · obtain ⟨k, hk⟩ := List.mem_iff_getElem?.1 hm; exact h2 k y hk
  · obtain ⟨k, hk⟩ := List.mem_iff_getElem?.1 (List.mem_of_mem_drop hm); exact h1 k y hk
theorem Fill.noId {m : Nat → Option Ob} {fs : Array Field} {cells out : List AV} {parts : List (Nat × AV)} {R : List Nat} {d : Nat} (h : Fill E m fs cells parts out R) :
    (∀ (j : Nat) (y : AV), cells[j]? = some y → NoId d y) → (∀ p ∈ parts, NoId d p.2) → ∀ (j : Nat) (y : AV), out[j]? = some y → NoId d y := by
  induction h with
  | nil cells => exact fun h _ => h
  | cons hf ht hc hl hb h ih =>
    intro h1 h2
    exact ih (setMany_noId h1 (hc.noId (h2 _ List.mem_cons_self))) fun p hp => h2 p (by simp [hp])

theorem StepV.noId {s : AS} {op : Op} {v : AV} {R : List Nat} {d : Nat} (h : StepV E s.m s.ev op v R) (hn : s.noId d) : NoId d v := by
  have ev := fun x => NoId.ev_ hn x
  cases h with
  | move x => exact ev x
  | assign x => exact ev x
  | pickT hc => exact ev _
  | pickF hc => exact ev _
  | loadL hx h2 ht hd hy => exact hn.2 _ _ h2 _ _ hy
  | loadLA hx h2 ht hd hy => exact NoId.sub (hn.2 _ _ h2)
  | fldL hx h2 ht hd hf h3 h0 => rename_i x _ _ _ _ _ _ _ _ ; have := ev x; rw [hx] at this; cases this with | loc h => exact .loc h
  | fldE hx h2 hn' ht hd hf h3 h0 => rename_i x _ _ _ _ _ _ _ _ _ _ _ _; have := ev x; rw [hx] at this; cases this with | el h => exact .el h
  | idxM hx h2 hn' hi h0 hlt ht hd h3 hs => rename_i x _ _ _ _ _ _ _ _ _ _ _; have := ev x; rw [hx] at this; cases this with | ms h => exact .el h
  | extract hx hy => rename_i x _ _; have := ev x; rw [hx] at this; cases this with | tup h => exact h _ _ hy
  | build ht hd ha hf =>
    refine .agg (hf.noId (fun j y hy => ?_) fun p hp => ?_)
    · rw [List.getElem?_map] at hy
      obtain ⟨z, _, rfl⟩ := Option.map_eq_some_iff.1 hy
      exact .c _
    · obtain ⟨q, _, rfl⟩ := List.mem_map.1 hp
      exact ev _
  | callF hc hx ha hp =>
    unfold resAV
    split
    · exact .c _
    · refine .tup fun j y hy => ?_
      rw [List.getElem?_map] at hy
      obtain ⟨z, _, rfl⟩ := Option.map_eq_some_iff.1 hy
      exact .c _
  | callP hc hx ha hp =>
    unfold resAV
    split
    · exact .c _
    · refine .tup fun j y hy => ?_
      rw [List.getElem?_map] at hy
      obtain ⟨z, _, rfl⟩ := Option.map_eq_some_iff.1 hy
      exact .c _
  | callB hc hx hp hs =>
    unfold resAV
    split
    · exact .c _
    · refine .tup fun j y hy => ?_
      rw [List.getElem?_map] at hy
      obtain ⟨z, _, rfl⟩ := Option.map_eq_some_iff.1 hy
      exact .c _
  | _ => exact .c _

theorem StepR.noId {s : AS} {dst : Option Tmp} {op : Op} {v : AV} {mw : List (Nat × Option Ob)} {R F : List Nat} {d : Nat} (h : StepR E s.m s.ev dst op v mw R F) (hn : s.noId d) (hd : d ∉ F) :
    NoId d v ∧ ∀ p ∈ mw, ∀ o, p.2 = some o → o.noId d := by
  have ev := fun x => NoId.ev_ hn x
  cases h with
  | val h => exact ⟨h.noId hn, fun p hp => by simp at hp⟩
  | box hc =>
    refine ⟨.loc (fun e => hd (by simp [e])), fun p hp o ho => ?_⟩
    simp at hp; subst hp; simp at ho; subst ho
    exact hc.noId (ev _)
  | alloc ht =>
    refine ⟨.loc (fun e => hd (by simp [e])), fun p hp o ho => ?_⟩
    simp at hp; subst hp; simp at ho; subst ho
    intro j y hy
    rw [List.getElem?_map] at hy
    obtain ⟨z, _, rfl⟩ := Option.map_eq_some_iff.1 hy
    exact .c _
  | storeL hx h2 ht hy h1 hl hb =>
    refine ⟨.any, fun p hp o ho => ?_⟩
    simp at hp; subst hp; simp at ho; subst ho
    exact setMany_noId (hn.2 _ _ h2) (hy.noId (ev _))
  | appM hx h2 hn' hy ht hd' h3 hs hb hb0 h1 h0 =>
    rename_i d' t x y i n sz e xs ys td de
    refine ⟨.ms fun e' => ?_, fun p hp o ho => ?_⟩
    · subst e'
      cases hb : Nat.beq i d' with
      | true =>
        have := Nat.eq_of_beq_eq_true hb; subst this
        have := ev x; rw [hx] at this; cases this with | ms h => exact h rfl
      | false => rw [hb] at hd; simp at hd
    · simp at hp
      rcases hp with rfl | rfl
      · simp at ho
      · simp at ho; subst ho; trivial
  | appN hx hy ht hd' h3 hs h0 hb hb0 h1 =>
    refine ⟨.ms fun e => hd (by simp [e]), fun p hp o ho => ?_⟩
    simp at hp; subst hp; simp at ho; subst ho; trivial
  | mkM hx hy hnc ht hd' h3 hz hs hb hc =>
    refine ⟨.ms fun e => hd (by simp [e]), fun p hp o ho => ?_⟩
    simp at hp; subst hp; simp at ho; subst ho; trivial
  | storeE hx h2 hn' hk ht hy hz h1 hl hb he =>
    refine ⟨.any, fun p hp o ho => ?_⟩
    simp at hp; subst hp; simp at ho; subst ho; trivial
  | callO hc hx h2 hnb hlt hp =>
    rename_i args ats f us xs rs oa ob
    have hnm : NoMen d rs ob := by
      by_cases h1 : d ∈ oa.map (·.1)
      · refine absurd ⟨fun x hx' => ?_, fun p hp => hn.2 p.1 p.2 (h2 p hp)⟩ (hp.root d h1)
        obtain ⟨j, hj⟩ := List.mem_iff_getElem?.1 hx'
        have hjl : j < (args.toList.map s.ev ++ us.map fun u => AV.c (.v u)).length := by rw [hx.1]; exact (List.getElem?_eq_some_iff.1 hj).1
        refine (hx.2 j _ x (List.getElem?_eq_getElem hjl) hj).noId d ?_
        have hmem := List.getElem_mem hjl
        rcases List.mem_append.1 hmem with hm' | hm'
        · obtain ⟨q, _, hq⟩ := List.mem_map.1 hm'; rw [← hq]; exact ev q
        · obtain ⟨q, _, hq⟩ := List.mem_map.1 hm'; rw [← hq]; exact .c _
      · exact hp.clo d h1 fun h3 => hd (mem_newIds.2 ⟨h3, h1⟩)
    refine ⟨?_, fun p hp' o ho => ?_⟩
    · unfold resA
      split
      · exact hnm.1 _ (by simp)
      · exact .tup fun j y hy => hnm.1 y (List.mem_of_getElem? hy)
    · unfold ownW at hp'
      rcases List.mem_append.1 hp' with hq | hq
      · obtain ⟨q, _, rfl⟩ := List.mem_map.1 hq; simp at ho
      · obtain ⟨q, hqm, rfl⟩ := List.mem_map.1 hq; simp at ho; subst ho; exact hnm.2 q hqm
  | run xs hx h => exact ⟨.c _, fun p hp => by simp at hp⟩
  | runC xs hx h => exact ⟨.c _, fun p hp => by simp at hp⟩
  | nilL hx h2 => rename_i x _ _ _; have := ev x; rw [hx] at this; exact ⟨this, fun p hp => by simp at hp⟩
  | nilE hx h2 hn' => rename_i x _ _ _ _ _ _ _ _; have := ev x; rw [hx] at this; exact ⟨this, fun p hp => by simp at hp⟩
  | idxL hx h2 hi h0 hlt ht hd' h3 => rename_i x _ _ _ _ _ _ _ _ _ _; have := ev x; rw [hx] at this; exact ⟨(by cases this with | loc h => exact .loc h), fun p hp => by simp at hp⟩
  | eqNL hop hx h2 hy ht hd' => exact ⟨.c _, fun p hp => by simp at hp⟩
  | bsM ht hd' h3 hs h0 hi hx hl hb =>
    refine ⟨.ms fun e => hd (by simp [e]), fun p hp o ho => ?_⟩
    simp at hp; subst hp; simp at ho; subst ho; trivial
  | vwM hx h2 hn' h0 ht hd' h3 hs hlo hhi hmx hlh hhc hcc => rename_i t x lo hi mx i n sz e e' l h c xs d de; have := ev x; rw [hx] at this; exact ⟨(by cases this with | ms h => exact .mv h), fun p hp => by simp at hp⟩
  | vwV hx h2 hn' ht hd' h3 hs hlo hhi hlh hhn => rename_i t x lo hi i n sz e e' l h h1 xs d de; have := ev x; rw [hx] at this; exact ⟨(by cases this with | mv h => exact .mv h), fun p hp => by simp at hp⟩
  | lnW hx h2 hn' ht hd' => exact ⟨.c _, fun p hp => by simp at hp⟩
  | apVV hx hy h2 hn' ht hd' h3 hs hb hb0 h1 hpq =>
    refine ⟨.ms fun e => hd (by simp [e]), fun p hp o ho => ?_⟩
    simp at hp
    rcases hp with rfl | rfl
    · simp at ho
    · simp at ho; subst ho; trivial
  | apIn hx hy h2 hn' ht hd' h3 hs h1 hpq =>
    rename_i t x y i n p q sz e xs td de
    have := ev x; rw [hx] at this
    refine ⟨by cases this with | mv h => exact .mv h, fun p hp o ho => ?_⟩
    simp at hp; subst hp; simp at ho; subst ho; trivial
  | clV hx h2 hn' hlh hhn ht hd' h3 hs hx0 h1 =>
    refine ⟨.any, fun p hp o ho => ?_⟩
    simp at hp; subst hp; simp at ho; subst ho; trivial

theorem updMs_noId {d : Nat} : ∀ (mw : List (Nat × Option Ob)) (m : Nat → Option Ob), (∀ i o, m i = some o → o.noId d) → (∀ p ∈ mw, ∀ o, p.2 = some o → o.noId d) → ∀ i o, updMs m mw i = some o → o.noId d
  | [], m, h, _ => h
  | (i, o) :: r, m, h, hp => updMs_noId r _ (fun j q hq => by
      by_cases e : j = i
      · subst e; rw [updM_same] at hq; exact hp _ List.mem_cons_self q hq
      · rw [updM_ne _ _ e] at hq; exact h j q hq) fun p hpm => hp p (by simp [hpm])
theorem putT_noId {d : Nat} {t : Nat → AV} (dst : Option Tmp) {v : AV} (h : ∀ j, NoId d (t j)) (hv : NoId d v) : ∀ j, NoId d (putT t dst v j) := by
  intro j
  cases dst with
  | none => exact h j
  | some e =>
    show NoId d (bif Nat.beq j e then v else t j)
    cases Nat.beq j e with
    | true => exact hv
    | false => exact h j

/-! ### a step under its guard -/
inductive StepO (E : Env) (ops : Array Oper) (s : AS) (o : Oper) : AV → List (Nat × Option Ob) → List Nat → List Nat → Prop where
  | plain {v : AV} {mw : List (Nat × Option Ob)} {R F : List Nat} (hg : o.guard = none) (h : StepR E s.m s.ev o.dst o.op v mw R F) : StepO E ops s o v mw R F
  | yes {v : AV} {mw : List (Nat × Option Ob)} {R F : List Nat} {j : Nat} {q : Bool} {d : Tmp} (hg : o.guard = some (j, q)) (hj : (ops[j]?).bind (·.dst) = some d) (hq : s.t d = .c (.v (.bool q)))
      (h : StepR E s.m s.ev o.dst o.op v mw R F) : StepO E ops s o v mw R F
  | no {j : Nat} {q q' : Bool} {d : Tmp} (hg : o.guard = some (j, q)) (hj : (ops[j]?).bind (·.dst) = some d) (hq : s.t d = .c (.v (.bool q'))) (hne : (q' == q) = false) : StepO E ops s o (.c (.v undef)) [] [] []
  | noU {j : Nat} {q : Bool} {d : Tmp} (hg : o.guard = some (j, q)) (hj : (ops[j]?).bind (·.dst) = some d) (hq : s.t d = .c (.v undef)) : StepO E ops s o (.c (.v undef)) [] [] []

theorem StepO.noId {ops : Array Oper} {s : AS} {o : Oper} {v : AV} {mw : List (Nat × Option Ob)} {R F : List Nat} {d : Nat} (h : StepO E ops s o v mw R F) (hn : s.noId d) (hd : d ∉ F) : (s.app o.dst v mw).noId d := by
  have : NoId d v ∧ ∀ p ∈ mw, ∀ o, p.2 = some o → o.noId d := by
    cases h with
    | plain _ h => exact h.noId hn hd
    | yes _ _ _ h => exact h.noId hn hd
    | no => exact ⟨.c _, fun p hp => by simp at hp⟩
    | noU => exact ⟨.c _, fun p hp => by simp at hp⟩
  exact ⟨putT_noId _ hn.1 this.1, updMs_noId _ _ hn.2 this.2⟩

theorem yielded_of {ops : Array Oper} {s : AS} {ρ : Nat → Value} {a : Act} {w : World} (h : STr C s ρ a w) {j : Nat} {d : Tmp} (hj : (ops[j]?).bind (·.dst) = some d) {q : Bool} (hq : s.t d = .c (.v (.bool q))) :
    yielded ops a.tmps j = some q := by
  have hv := h.tmp d
  rw [hq] at hv
  have hv := hv.v_inv
  unfold yielded
  rw [hj]
  simp only [Option.bind_some]
  cases hd : a.tmps[d]? with
  | none => simp [Array.getD_eq_getD_getElem?, hd, undef] at hv
  | some x => simp [Array.getD_eq_getD_getElem?, hd] at hv; subst hv; rfl

theorem yielded_undef {ops : Array Oper} {s : AS} {ρ : Nat → Value} {a : Act} {w : World} (h : STr C s ρ a w) {j : Nat} {d : Tmp} (hj : (ops[j]?).bind (·.dst) = some d) (hq : s.t d = .c (.v undef)) :
    yielded ops a.tmps j = none := by
  have hv := h.tmp d
  rw [hq] at hv
  have hv := hv.v_inv
  unfold yielded
  rw [hj]
  simp only [Option.bind_some]
  cases hd : a.tmps[d]? with
  | none => rfl
  | some x => simp [Array.getD_eq_getD_getElem?, hd] at hv; subst hv; rfl

/-- One operation of a region, sound. -/
theorem StepO.wp {ops : Array Oper} {s : AS} {ρ : Nat → Value} {a : Act} {w : World} (h : STr C s ρ a w) {i : Nat} {o : Oper} (hoi : ops[i]? = some o) {v : AV} {mw : List (Nat × Option Ob)} {R F : List Nat}
    (hs : StepO E ops s o v mw R F) (hd : ∀ d, o.dst = some d → d < C.n) (hF : ∀ d ∈ F, s.noId d) {K : Act → World → Prop} {Q : Exit → Act → World → Prop}
    (hK : ∀ a' w', ST C (s.app o.dst v mw) a' w' → K a' w') : wpOp E.P ops Q i K a w := by
  unfold wpOp
  rw [hoi]
  simp only
  cases hs with
  | plain hg hs =>
    rw [if_pos (by simp [Region.wanted, hg])]
    exact .inl (hs.wp h rfl rfl hd hF hK)
  | yes hg hj hq hs =>
    rw [if_pos (by simp [Region.wanted, hg, yielded_of h hj hq])]
    exact .inl (hs.wp h rfl rfl hd hF hK)
  | no hg hj hq hne =>
    rw [if_neg (by simp only [Region.wanted, hg, yielded_of h hj hq]; intro hc; rw [beq_iff_eq] at hc; injection hc with hc; rw [hc] at hne; simp at hne)]
    exact hK _ _ ⟨ρ, h.put o.dst hd fun _ => .c (.v _)⟩
  | noU hg hj hq =>
    rw [if_neg (by simp only [Region.wanted, hg, yielded_undef h hj hq]; intro hc; cases hc)]
    exact hK _ _ ⟨ρ, h.put o.dst hd fun _ => .c (.v _)⟩

theorem StepO.loc_ {ops : Array Oper} {s s' : AS} {o : Oper} {v : AV} {mw : List (Nat × Option Ob)} {R F : List Nat} (h : StepO E ops s o v mw R F)
    (ht : ∀ d ∈ o.looksAt ops, s'.t d = s.t d) (hm : ∀ i ∈ R, s'.m i = s.m i) : StepO E ops s' o v mw R F := by
  have he : ∀ x ∈ o.op.operands.toList, s'.ev x = s.ev x := by
    intro x hx
    cases x with
    | tmp t => exact ht t (by
        unfold Oper.looksAt
        exact List.mem_append_left _ (List.mem_filterMap.2 ⟨_, hx, rfl⟩))
    | _ => rfl
  have hgd : ∀ j q d, o.guard = some (j, q) → (ops[j]?).bind (·.dst) = some d → s'.t d = s.t d := by
    intro j q d hg hj
    refine ht d ?_
    unfold Oper.looksAt
    refine List.mem_append_right _ ?_
    rw [hg]; simp only; rw [hj]; simp
  cases h with
  | plain hg h => exact .plain hg (h.loc_ he hm)
  | yes hg hj hq h => exact .yes hg hj (by rw [hgd _ _ _ hg hj]; exact hq) (h.loc_ he hm)
  | no hg hj hq hne => exact .no hg hj (by rw [hgd _ _ _ hg hj]; exact hq) hne
  | noU hg hj hq => exact .noU hg hj (by rw [hgd _ _ _ hg hj]; exact hq)
end
end Go.AM

/- The abstract machine, part 16: a region runs in any order that its edges let; text order tells all. It speaks of whatever program. -/
namespace Go.AM
open Go Go.RowKit
set_option linter.unusedVariables false
set_option linter.unusedSimpArgs false

/-- What an operation of a region looked at, turned, made. -/
structure FP where
  i : Nat
  R : List Nat
  W : List Nat
  F : List Nat

def disj (a b : List Nat) : Bool := a.all fun x => !b.contains x
theorem disj_spec {a b : List Nat} (h : disj a b = true) : ∀ x ∈ a, x ∉ b := by
  intro x hx hb
  have := List.all_eq_true.1 h x hx
  simp at this; exact this hb

/-- Two operations that may stand in either order. -/
def indep (ops : Array Oper) (x y : FP) : Bool :=
  match ops[x.i]?, ops[y.i]? with
  | some ox, some oy => ox.apart ops oy && disj x.W (y.R ++ y.W) && disj y.W x.R
  | _, _ => false

/-- The operations that must have run before each: by bits. -/
def masks (ops : List Oper) : List Nat :=
  ops.foldl (fun acc o => acc ++ [o.after.toList.foldl (fun s e => bif Region.binds .any e then s ||| 2 ^ e.on ||| acc.getD e.on 0 else s) 0]) []

/-- The text's order is one of those that the edges let. -/
def textOk (ops : Array Oper) : Bool := ops.toList.zipIdx.all fun p => p.1.after.toList.all fun e => !Region.binds .any e || decide (e.on < p.2)

def chkP (ops : Array Oper) (ms : List Nat) : List FP → Bool
  | [] => true
  | x :: r => r.all (fun y => (ms.getD y.i 0).testBit x.i || indep ops x y) && r.all (fun y => disj x.F y.F) && chkP ops ms r

inductive Pre (ops : Array Oper) : Nat → Nat → Prop where
  | edge {k j : Nat} {o : Oper} {e : Edge} (ho : ops[j]? = some o) (he : e ∈ o.after.toList) (hb : Region.binds .any e = true) (hk : e.on = k) : Pre ops k j
  | step {k l j : Nat} {o : Oper} {e : Edge} (ho : ops[j]? = some o) (he : e ∈ o.after.toList) (hb : Region.binds .any e = true) (hl : e.on = l) (h : Pre ops k l) : Pre ops k j

theorem fold_bits (acc : List Nat) (k : Nat) : ∀ (es : List Edge) (s : Nat), (es.foldl (fun s e => bif Region.binds .any e then s ||| 2 ^ e.on ||| acc.getD e.on 0 else s) s).testBit k = true →
    s.testBit k = true ∨ ∃ e ∈ es, Region.binds .any e = true ∧ (e.on = k ∨ (acc.getD e.on 0).testBit k = true)
  | [], s, h => .inl h
  | e :: es, s, h => by
    rw [List.foldl_cons] at h
    rcases fold_bits acc k es _ h with h | ⟨e', he', hb, hk⟩
    · cases hb : Region.binds .any e with
      | false => rw [hb] at h; exact .inl h
      | true =>
        rw [hb] at h
        simp only [cond_true, Nat.testBit_or, Bool.or_eq_true] at h
        rcases h with (h | h) | h
        · exact .inl h
        · rw [Nat.testBit_two_pow] at h; exact .inr ⟨e, by simp, hb, .inl (by simpa using h)⟩
        · exact .inr ⟨e, by simp, hb, .inr h⟩
    · exact .inr ⟨e', by simp [he'], hb, hk⟩

theorem masks_pre (ops : Array Oper) : ∀ (l : List Oper) (acc : List Nat), (∀ j, l[j]? = ops[acc.length + j]?) → (∀ j k, (acc.getD j 0).testBit k = true → Pre ops k j) →
    ∀ j k, ((l.foldl (fun acc o => acc ++ [o.after.toList.foldl (fun s e => bif Region.binds .any e then s ||| 2 ^ e.on ||| acc.getD e.on 0 else s) 0]) acc).getD j 0).testBit k = true → Pre ops k j
  | [], acc, _, h => h
  | o :: l, acc, hl, h => by
    rw [List.foldl_cons]
    refine masks_pre ops l _ (fun j => ?_) fun j k hk => ?_
    · have := hl (j + 1)
      simp only [List.getElem?_cons_succ, List.length_append, List.length_cons, List.length_nil] at this ⊢
      rw [this]; congr 1; omega
    · rw [List.getD_eq_getElem?_getD, List.getElem?_append] at hk
      split at hk
      · exact h j k (by rw [List.getD_eq_getElem?_getD]; exact hk)
      · rename_i hj
        by_cases e : j = acc.length
        · subst e
          simp at hk
          have ho : ops[acc.length]? = some o := by have := hl 0; simpa using this.symm
          rcases fold_bits acc k o.after.toList 0 (by simpa using hk) with h0 | ⟨e, he, hb, hk | hk⟩
          · simp at h0
          · exact .edge ho he hb hk
          · exact .step ho he hb rfl (h _ _ hk)
        · rw [List.getElem?_eq_none (by simp; omega)] at hk; simp at hk

theorem masks_spec (ops : Array Oper) (j k : Nat) (h : ((masks ops.toList).getD j 0).testBit k = true) : Pre ops k j :=
  masks_pre ops ops.toList [] (fun j => by simp) (fun j k hk => by simp at hk) j k h

section
variable {E : Env} {C : Ctx} {ops : Array Oper}

/-- Operations one after the other, as the list has them. -/
inductive Run (E : Env) (ops : Array Oper) : List FP → AS → AS → Prop where
  | nil (s : AS) : Run E ops [] s s
  | cons {x : FP} {r : List FP} {s s' : AS} {o : Oper} {v : AV} {mw : List (Nat × Option Ob)} (ho : ops[x.i]? = some o) (hs : StepO E ops s o v mw x.R x.F) (hw : mw.map (·.1) = x.W)
      (hr : Run E ops r (s.app o.dst v mw) s') : Run E ops (x :: r) s s'

theorem putT_comm (t : Nat → AV) (d d' : Option Tmp) (v v' : AV) (h : ∀ x, d = some x → d' ≠ some x) : putT (putT t d v) d' v' = putT (putT t d' v') d v := by
  cases d with
  | none => rfl
  | some d =>
    cases d' with
    | none => rfl
    | some d' =>
      have hne : d ≠ d' := fun e => h d rfl (by rw [e])
      funext j
      show (bif Nat.beq j d' then v' else bif Nat.beq j d then v else t j) = bif Nat.beq j d then v else bif Nat.beq j d' then v' else t j
      cases h1 : Nat.beq j d with
      | false => rfl
      | true =>
        cases h2 : Nat.beq j d' with
        | false => rfl
        | true => exact absurd ((Nat.eq_of_beq_eq_true h1).symm.trans (Nat.eq_of_beq_eq_true h2)) hne
theorem putT_other (t : Nat → AV) (d : Option Tmp) (v : AV) (j : Nat) (h : d ≠ some j) : putT t d v j = t j := by
  cases d with
  | none => rfl
  | some d =>
    have hne : j ≠ d := fun e => h (by rw [e])
    show (bif Nat.beq j d then v else t j) = t j
    cases hb : Nat.beq j d with
    | false => rfl
    | true => exact absurd (Nat.eq_of_beq_eq_true hb) hne
theorem updM_comm (m : Nat → Option Ob) {i j : Nat} (o p : Option Ob) (h : i ≠ j) : updM (updM m i o) j p = updM (updM m j p) i o := by
  funext k
  by_cases h1 : k = i
  · subst h1; rw [updM_ne _ _ h, updM_same, updM_same]
  · by_cases h2 : k = j
    · subst h2; rw [updM_same, updM_ne _ _ h1, updM_same]
    · rw [updM_ne _ _ h2, updM_ne _ _ h1, updM_ne _ _ h1, updM_ne _ _ h2]
theorem updMs_one : ∀ (mw : List (Nat × Option Ob)) (m : Nat → Option Ob) (i : Nat) (o : Option Ob), i ∉ mw.map (·.1) → updMs (updM m i o) mw = updM (updMs m mw) i o
  | [], m, i, o, _ => rfl
  | (j, p) :: r, m, i, o, h => by
    simp at h
    show updMs (updM (updM m i o) j p) r = updM (updMs (updM m j p) r) i o
    rw [updM_comm m o p h.1, updMs_one r _ i o (by simpa using h.2)]
theorem updMs_comm : ∀ (a b : List (Nat × Option Ob)) (m : Nat → Option Ob), (∀ x ∈ a.map (·.1), x ∉ b.map (·.1)) → updMs (updMs m a) b = updMs (updMs m b) a
  | [], b, m, _ => rfl
  | (i, o) :: r, b, m, h => by
    show updMs (updMs (updM m i o) r) b = updMs (updM (updMs m b) i o) r
    rw [updMs_comm r b _ fun x hx => h x (by simp at hx ⊢; exact .inr hx)]
    rw [updMs_one b m i o (h i (by simp))]
theorem updMs_other : ∀ (mw : List (Nat × Option Ob)) (m : Nat → Option Ob) (i : Nat), i ∉ mw.map (·.1) → updMs m mw i = m i
  | [], m, i, _ => rfl
  | (j, p) :: r, m, i, h => by
    simp at h
    show updMs (updM m j p) r i = m i
    rw [updMs_other r _ i (by simpa using h.2), updM_ne _ _ h.1]

/-- y then x, or x then y: where neither looks at the other's. -/
theorem swap {s : AS} {x y : FP} {ox oy : Oper} {vx vy : AV} {mx my : List (Nat × Option Ob)} (hox : ops[x.i]? = some ox) (hoy : ops[y.i]? = some oy) (hi : indep ops y x = true)
    (hy : StepO E ops s oy vy my y.R y.F) (hwy : my.map (·.1) = y.W) (hx : StepO E ops (s.app oy.dst vy my) ox vx mx x.R x.F) (hwx : mx.map (·.1) = x.W) :
    StepO E ops s ox vx mx x.R x.F ∧ StepO E ops (s.app ox.dst vx mx) oy vy my y.R y.F ∧ (s.app oy.dst vy my).app ox.dst vx mx = (s.app ox.dst vx mx).app oy.dst vy my := by
  unfold indep at hi
  rw [hox, hoy] at hi
  simp only [Bool.and_eq_true] at hi
  obtain ⟨⟨hap, h1⟩, h2⟩ := hi
  obtain ⟨ha, hb, hc⟩ := Oper.apart_spec hap
  have hd1 := disj_spec h1
  have hd2 := disj_spec h2
  refine ⟨hx.loc_ (fun d hd => ?_) fun i hi => ?_, hy.loc_ (fun d hd => ?_) fun i hi => ?_, ?_⟩
  · exact (putT_other _ _ _ _ fun e => ha d e hd).symm
  · refine (updMs_other my s.m i fun hm => ?_).symm
    rw [hwy] at hm; exact hd1 i hm (List.mem_append_left _ hi)
  · exact putT_other _ _ _ _ fun e => hc d e hd
  · refine updMs_other mx s.m i fun hm => ?_
    rw [hwx] at hm; exact hd2 i hm hi
  · unfold AS.app
    simp only
    rw [putT_comm s.t oy.dst ox.dst vy vx hb, updMs_comm my mx s.m fun i hi => ?_]
    rw [hwy] at hi; rw [hwx]; exact fun hh => hd1 i hi (List.mem_append_right _ hh)

/-- An operation that waits for none of those ahead of it may run first. -/
theorem front {x : FP} {q : List FP} {s' : AS} : ∀ (p : List FP) (s : AS), (∀ y ∈ p, indep ops y x = true) → Run E ops (p ++ x :: q) s s' →
    ∃ o v mw, ops[x.i]? = some o ∧ StepO E ops s o v mw x.R x.F ∧ mw.map (·.1) = x.W ∧ Run E ops (p ++ q) (s.app o.dst v mw) s'
  | [], s, _, h => by
    cases h with
    | cons ho hs hw hr => exact ⟨_, _, _, ho, hs, hw, hr⟩
  | y :: p, s, hi, h => by
    cases h with
    | cons ho hs hw hr =>
      obtain ⟨ox, vx, mx, hox, hx, hwx, hrest⟩ := front p _ (fun z hz => hi z (by simp [hz])) hr
      obtain ⟨h1, h2, h3⟩ := swap hox ho (hi y (by simp)) hs hw hx hwx
      rw [h3] at hrest
      exact ⟨ox, vx, mx, hox, h1, hwx, .cons ho h2 hw hrest⟩

theorem chkP_append {ms : List Nat} {x : FP} {q : List FP} : ∀ (p : List FP), chkP ops ms (p ++ x :: q) = true →
    (∀ y ∈ p, ((ms.getD x.i 0).testBit y.i || indep ops y x) = true) ∧ (∀ y ∈ p, disj y.F x.F = true) ∧ (∀ y ∈ q, disj x.F y.F = true) ∧ chkP ops ms (p ++ q) = true
  | [], h => by
    simp only [List.nil_append, chkP, Bool.and_eq_true, List.all_eq_true] at h ⊢
    exact ⟨fun y hy => by simp at hy, fun y hy => by simp at hy, h.1.2, h.2⟩
  | y :: p, h => by
    simp only [List.cons_append, chkP, Bool.and_eq_true, List.all_eq_true] at h
    obtain ⟨⟨h1, h2⟩, h3⟩ := h
    obtain ⟨i1, i2, i3, i4⟩ := chkP_append p h3
    refine ⟨fun z hz => ?_, fun z hz => ?_, i3, ?_⟩
    · rcases List.mem_cons.1 hz with rfl | hz
      · exact h1 x (by simp)
      · exact i1 z hz
    · rcases List.mem_cons.1 hz with rfl | hz
      · exact h2 x (by simp)
      · exact i2 z hz
    · simp only [List.cons_append, chkP, Bool.and_eq_true, List.all_eq_true]
      exact ⟨⟨fun z hz => h1 z (by simp at hz ⊢; rcases hz with h | h <;> simp [h]), fun z hz => h2 z (by simp at hz ⊢; rcases hz with h | h <;> simp [h])⟩, i4⟩

theorem disj_not {a b : List Nat} (h : disj a b = true) {d : Nat} (hd : d ∈ b) : d ∉ a := fun ha => disj_spec h d ha hd
end
end Go.AM

/- The abstract machine, part 17: regions and code, sound. It speaks of whatever program. -/
namespace Go.AM
open Go Go.RowKit
set_option linter.unusedVariables false
set_option linter.unusedSimpArgs false

section
variable {E : Env} {C : Ctx} {ops : Array Oper} {s' : AS} {Q : Exit → Act → World → Prop}

def dstOk (n : Nat) (ops : Array Oper) : Bool := ops.toList.all fun o => match o.dst with | some d => decide (d < n) | none => true
theorem dstOk_spec {n : Nat} (h : dstOk n ops = true) {i : Nat} {o : Oper} (ho : ops[i]? = some o) : ∀ d, o.dst = some d → d < n := by
  intro d hd
  have := List.all_eq_true.1 h o (by simpa using Array.mem_of_getElem? ho)
  rw [hd] at this; simpa using this

def chkF : List FP → Bool
  | [] => true
  | x :: r => r.all (fun y => disj x.F y.F) && chkF r

theorem run_text (hQ : ∀ a w, ST C s' a w → Q .normal a w) (hd : dstOk C.n ops = true) : ∀ (r : List FP) (s : AS) (a : Act) (w : World), ST C s a w → Run E ops r s s' → chkF r = true → (∀ x ∈ r, ∀ d ∈ x.F, s.noId d) →
    wpOps E.P ops Q (r.map (·.i)) a w
  | [], s, a, w, hs, hr, _, _ => by
    cases hr; exact hQ a w hs
  | x :: r, s, a, w, ⟨ρ, hs⟩, hr, hc, hn => by
    cases hr with
    | cons ho hstep hw hrest =>
      simp only [chkF, Bool.and_eq_true, List.all_eq_true] at hc
      rw [List.map_cons, wpOps_cons]
      refine hstep.wp hs ho (dstOk_spec hd ho) (hn x (by simp)) fun a' w' hs' => run_text hQ hd r _ a' w' hs' hrest hc.2 fun y hy d hdy => ?_
      exact hstep.noId (hn y (by simp [hy]) d hdy) (disj_not (hc.1 y hy) hdy)

theorem textOk_spec (h : textOk ops = true) {j : Nat} {o : Oper} (ho : ops[j]? = some o) {e : Edge} (he : e ∈ o.after.toList) (hb : Region.binds .any e = true) : e.on < j := by
  have hm : (o, j) ∈ ops.toList.zipIdx := by
    rw [List.mem_iff_getElem?]
    refine ⟨j, ?_⟩
    simp [List.getElem?_zipIdx, ho]
  have := List.all_eq_true.1 h _ hm
  have := List.all_eq_true.1 this e he
  rw [hb] at this; simpa using this

theorem mem_ready {listed : Array Bool} {i : Nat} : i ∈ Region.ready .any ops listed ↔ i < ops.size ∧ listed.getD i true = false ∧ ∃ o, ops[i]? = some o ∧ ∀ e ∈ o.after.toList, Region.binds .any e = true → listed.getD e.on false = true := by
  unfold Region.ready
  rw [List.mem_filter]
  constructor
  · rintro ⟨h1, h2⟩
    simp only [Bool.and_eq_true, Bool.not_eq_true'] at h2
    have hlt : i < ops.size := by simpa using h1
    refine ⟨hlt, h2.1, ops[i], by simp [hlt], fun e he hb => ?_⟩
    have h3 := h2.2
    rw [show ops[i]? = some ops[i] from by simp [hlt]] at h3
    simp only [Option.map_some, Option.getD_some] at h3
    have := Array.all_eq_true_iff_forall_mem.1 h3 e (by simpa using he)
    simpa [hb] using this
  · rintro ⟨hlt, h2, o, ho, h3⟩
    refine ⟨by simpa using hlt, ?_⟩
    simp only [Bool.and_eq_true, Bool.not_eq_true']
    refine ⟨h2, ?_⟩
    rw [ho]
    simp only [Option.map_some, Option.getD_some]
    refine Array.all_eq_true_iff_forall_mem.2 fun e he => ?_
    cases hb : Region.binds .any e with
    | false => rfl
    | true => simpa using h3 e (by simpa using he) hb

def Closed (ops : Array Oper) (listed : Array Bool) : Prop :=
  ∀ (j : Nat) (o : Oper), listed.getD j false = true → ops[j]? = some o → ∀ e ∈ o.after.toList, Region.binds .any e = true → listed.getD e.on false = true
theorem Closed.pre {listed : Array Bool} (h : Closed ops listed) {k j : Nat} (hp : Pre ops k j) : listed.getD j false = true → listed.getD k false = true := by
  induction hp with
  | edge ho he hb hk => intro hj; subst hk; exact h _ _ hj ho _ he hb
  | step ho he hb hl hp ih => intro hj; subst hl; exact ih (h _ _ hj ho _ he hb)
theorem pre_ready {listed : Array Bool} (h : Closed ops listed) {k i : Nat} (hi : i ∈ Region.ready .any ops listed) (hp : Pre ops k i) : listed.getD k false = true := by
  obtain ⟨_, _, o, ho, hr⟩ := mem_ready.1 hi
  cases hp with
  | edge ho' he hb hk => rw [ho] at ho'; cases ho'; subst hk; exact hr _ he hb
  | step ho' he hb hl hp => rw [ho] at ho'; cases ho'; subst hl; exact h.pre hp (hr _ he hb)

theorem getD_set {listed : Array Bool} {i j : Nat} {d : Bool} (hi : i < listed.size) : (listed.setIfInBounds i true).getD j d = if j = i then true else listed.getD j d := by
  simp only [Array.getD_eq_getD_getElem?]
  by_cases e : j = i
  · subst e; simp [hi]
  · rw [if_neg e, Array.getElem?_setIfInBounds_ne (Ne.symm e)]

theorem run_any (hm : textOk ops = true) (hQ : ∀ a w, ST C s' a w → Q .normal a w) (hd : dstOk C.n ops = true) : ∀ (fuel : Nat) (listed : Array Bool) (r : List FP) (s : AS) (a : Act) (w : World), ST C s a w → listed.size = ops.size →
    r.map (·.i) = (List.range ops.size).filter (fun i => !listed.getD i true) → r.length ≤ fuel → Closed ops listed → Run E ops r s s' → chkP ops (masks ops.toList) r = true → (∀ x ∈ r, ∀ d ∈ x.F, s.noId d) →
    wpAny E.P .any ops Q fuel listed a w := by
  intro fuel
  have hnil : ∀ (listed : Array Bool) (r : List FP), listed.size = ops.size → r.map (·.i) = (List.range ops.size).filter (fun i => !listed.getD i true) → Region.ready .any ops listed = [] → r = [] := by
    intro listed r hsz hr hready
    cases r with
    | nil => rfl
    | cons x r =>
      exfalso
      have hx : x.i ∈ (List.range ops.size).filter (fun i => !listed.getD i true) := by rw [← hr]; simp
      rw [List.mem_filter] at hx
      have hlt : x.i < ops.size := by simpa using hx.1
      have : x.i ∈ Region.ready .any ops listed := by
        refine mem_ready.2 ⟨hlt, by simpa using hx.2, ops[x.i], by simp [hlt], fun e he hb => ?_⟩
        have helt := textOk_spec hm (show ops[x.i]? = some ops[x.i] by simp [hlt]) he hb
        cases hle : listed.getD e.on true with
        | true =>
          simp only [Array.getD_eq_getD_getElem?] at hle ⊢
          have hlt2 : e.on < listed.size := by omega
          simp only [hlt2, Array.getElem?_eq_getElem, Option.getD_some] at hle ⊢; exact hle
        | false =>
          exfalso
          have hmem : e.on ∈ (List.range ops.size).filter (fun i => !listed.getD i true) := by
            rw [List.mem_filter]; exact ⟨by simp; omega, by simp [hle]⟩
          have hsorted : ((List.range ops.size).filter (fun i => !listed.getD i true)).Pairwise (· < ·) := List.Pairwise.filter _ List.pairwise_lt_range
          rw [← hr] at hmem hsorted
          rw [List.map_cons] at hmem hsorted
          rcases List.mem_cons.1 hmem with h | h
          · omega
          · have := (List.pairwise_cons.1 hsorted).1 _ h; omega
      rw [hready] at this; simp at this
  induction fuel with
  | zero =>
    intro listed r s a w hs hsz hr hf hcl hrun hchk hn
    have hr0 : r = [] := List.eq_nil_of_length_eq_zero (by omega)
    subst hr0
    cases hrun
    refine ⟨?_, hQ a w hs⟩
    cases hready : Region.ready .any ops listed with
    | nil => rfl
    | cons i _ =>
      exfalso
      have hi : i ∈ Region.ready .any ops listed := by rw [hready]; simp
      obtain ⟨hlt, hl, _⟩ := mem_ready.1 hi
      have : i ∈ (List.range ops.size).filter (fun i => !listed.getD i true) := by
        rw [List.mem_filter]; exact ⟨by simpa using hlt, by simp [hl]⟩
      rw [← hr] at this; simp at this
  | succ fuel ih =>
    intro listed r s a w hs hsz hr hf hcl hrun hchk hn
    refine ⟨fun hready => ?_, fun i hi => ?_⟩
    · have := hnil listed r hsz hr hready
      subst this
      cases hrun; exact hQ a w hs
    · obtain ⟨hlt, hl, _⟩ := mem_ready.1 hi
      have himem : i ∈ r.map (·.i) := by rw [hr, List.mem_filter]; exact ⟨by simpa using hlt, by simp [hl]⟩
      obtain ⟨x, hx, rfl⟩ := List.mem_map.1 himem
      obtain ⟨p, q, rfl⟩ := List.append_of_mem hx
      obtain ⟨h1, h2, h3, h4⟩ := chkP_append p hchk
      have hunl : ∀ y ∈ p ++ x :: q, listed.getD y.i true = false := by
        intro y hy
        have : y.i ∈ (p ++ x :: q).map (·.i) := List.mem_map.2 ⟨y, hy, rfl⟩
        rw [hr, List.mem_filter] at this
        simpa using this.2
      have hind : ∀ y ∈ p, indep ops y x = true := by
        intro y hy
        have := h1 y hy
        rw [Bool.or_eq_true] at this
        rcases this with hb | hb
        · have hly := pre_ready hcl hi (masks_spec ops x.i y.i hb)
          have hly' := hunl y (by simp [hy])
          simp only [Array.getD_eq_getD_getElem?] at hly hly'
          cases hq : listed[y.i]? with
          | none => rw [hq] at hly; simp at hly
          | some b => rw [hq] at hly hly'; simp at hly hly'; rw [hly] at hly'; cases hly'
        · exact hb
      obtain ⟨o, v, mw, ho, hstep, hw, hrest⟩ := front p s hind hrun
      obtain ⟨ρ, hs⟩ := hs
      refine hstep.wp hs ho (dstOk_spec hd ho) (hn x hx) fun a' w' hs' => ih _ (p ++ q) _ a' w' hs' (by simpa using hsz) ?_ (by simp at hf ⊢; omega) ?_ hrest h4 ?_
      · have hnd : ((List.range ops.size).filter (fun i => !listed.getD i true)).Pairwise (· < ·) := List.Pairwise.filter _ List.pairwise_lt_range
        rw [← hr, List.map_append, List.map_cons] at hnd
        have he : (List.range ops.size).filter (fun j => !(listed.setIfInBounds x.i true).getD j true) = ((List.range ops.size).filter (fun i => !listed.getD i true)).filter (fun j => !(j == x.i)) := by
          rw [List.filter_filter]
          apply List.filter_congr
          intro j _
          rw [getD_set (by rw [hsz]; exact hlt)]
          by_cases e : j = x.i
          · simp [e]
          · simp [e]
        rw [he, ← hr]
        simp only [List.map_append, List.map_cons, List.filter_append, List.filter_cons]
        rw [List.pairwise_append] at hnd
        have hp : ∀ j ∈ p.map (·.i), (!(j == x.i)) = true := by
          intro j hj
          have := hnd.2.2 j hj x.i (by simp)
          have : j ≠ x.i := by omega
          simpa using this
        have hq : ∀ j ∈ q.map (·.i), (!(j == x.i)) = true := by
          intro j hj
          have := (List.pairwise_cons.1 hnd.2.1).1 j hj
          have : j ≠ x.i := by omega
          simpa using this
        rw [List.filter_eq_self.2 hp, List.filter_eq_self.2 hq]
        simp
      · intro j oj hj hoj e he hb
        rw [getD_set (by rw [hsz]; exact hlt)] at hj ⊢
        split
        · rfl
        · by_cases ej : j = x.i
          · subst ej
            obtain ⟨_, _, o', ho', hr'⟩ := mem_ready.1 hi
            rw [hoj] at ho'; cases ho'
            exact hr' e he hb
          · rw [if_neg ej] at hj; exact hcl j oj hj hoj e he hb
      · intro y hy d hdy
        have hyr : y ∈ p ++ x :: q := by simp at hy ⊢; rcases hy with h | h <;> simp [h]
        refine hstep.noId (hn y hyr d hdy) ?_
        rcases List.mem_append.1 hy with hy | hy
        · intro hdx; exact disj_not (h2 y hy) hdx hdy
        · exact disj_not (h3 y hy) hdy
end
end Go.AM

/- The abstract machine, part 18: code; loops; what may be forgotten; what a function hands back. It speaks of whatever program. -/
namespace Go.AM
open Go Go.RowKit
set_option linter.unusedVariables false
set_option linter.unusedSimpArgs false

inductive Ex where
  | normal
  | exit (id : Nat)
  | ret
def Ex.ofExit : Exit → Option Ex
  | .normal => some .normal
  | .exit i => some (.exit i)
  | .ret => some .ret
  | _ => none

def PostQ (C : Ctx) (Q : Ex → AS → Prop) (e : Exit) (a : Act) (w : World) : Prop := ∃ x s, Ex.ofExit e = some x ∧ Q x s ∧ ST C s a w

/-- Code, begun in a state as s says, ends as Q says. -/
def CQ (E : Env) (C : Ctx) (c : Code) (s : AS) (Q : Ex → AS → Prop) : Prop := ∀ a w, ST C s a w → c.wp E.P (PostQ C Q) a w

def thenQ (n : AS → Prop) (Q : Ex → AS → Prop) : Ex → AS → Prop
  | .normal, s => n s
  | e, s => Q e s
def blockQ (id : Nat) (Q : Ex → AS → Prop) : Ex → AS → Prop
  | .exit i, s => bif Nat.beq i id then Q .normal s else Q (.exit i) s
  | e, s => Q e s

section
variable {E : Env} {C : Ctx} {s : AS} {Q : Ex → AS → Prop}

theorem CQ.skip (h : Q .normal s) : CQ E C .skip s Q := fun a w hs => wp_skip ⟨.normal, s, rfl, h, hs⟩
theorem CQ.ret (h : Q .ret s) : CQ E C .ret s Q := fun a w hs => wp_ret ⟨.ret, s, rfl, h, hs⟩
theorem CQ.exit {id : Nat} (h : Q (.exit id) s) : CQ E C (.exit id) s Q := fun a w hs => wp_exit ⟨.exit id, s, rfl, h, hs⟩
theorem CQ.seq {x y : Code} (h : CQ E C x s (thenQ (fun s' => CQ E C y s' Q) Q)) : CQ E C (.seq x y) s Q := by
  intro a w hs
  refine wp_seq (Code.wp_mono ?_ (h a w hs))
  rintro e a' w' ⟨x', s', he, hq, hs'⟩
  cases e <;> simp [Ex.ofExit] at he <;> subst he
  · exact hq a' w' hs'
  · exact ⟨_, s', rfl, hq, hs'⟩
  · exact ⟨_, s', rfl, hq, hs'⟩
theorem CQ.block {id : Nat} {c : Code} (h : CQ E C c s (blockQ id Q)) : CQ E C (.block id c) s Q := by
  intro a w hs
  refine wp_block (Code.wp_mono ?_ (h a w hs))
  rintro e a' w' ⟨x', s', he, hq, hs'⟩
  cases e <;> simp [Ex.ofExit] at he <;> subst he
  · exact ⟨_, s', rfl, hq, hs'⟩
  · rename_i i
    show if i = id then _ else _
    simp only [blockQ] at hq
    split
    · rename_i e; subst e
      rw [Nat.beq_refl] at hq
      exact ⟨_, s', rfl, hq, hs'⟩
    · rename_i e
      have : Nat.beq i id = false := by
        cases hb : Nat.beq i id with
        | false => rfl
        | true => exact absurd (Nat.eq_of_beq_eq_true hb) e
      rw [this] at hq
      exact ⟨_, s', rfl, hq, hs'⟩
  · exact ⟨_, s', rfl, hq, hs'⟩
theorem CQ.condT {c : Operand} {x y : Code} (hc : s.ev c = .c (.v (.bool true))) (h : CQ E C x s Q) : CQ E C (.cond c x y) s Q := by
  intro a w hs
  obtain ⟨ρ, hs'⟩ := hs
  exact wp_cond_true (ev_int hs' hc) (h a w ⟨ρ, hs'⟩)
theorem CQ.condF {c : Operand} {x y : Code} (hc : s.ev c = .c (.v (.bool false))) (h : CQ E C y s Q) : CQ E C (.cond c x y) s Q := by
  intro a w hs
  obtain ⟨ρ, hs'⟩ := hs
  exact wp_cond_false (ev_int hs' hc) (h a w ⟨ρ, hs'⟩)
theorem CQ.cond {c : Operand} {x y : Code} {b : Bool} (hc : s.ev c = .c (.v (.bool b))) (ht : b = true → CQ E C x s Q) (hf : b = false → CQ E C y s Q) : CQ E C (.cond c x y) s Q := by
  cases b
  · exact .condF hc (hf rfl)
  · exact .condT hc (ht rfl)

theorem CQ.regD {id : Nat} {l : List Oper} {fps : List FP} {s' : AS} (hr : Run E ⟨l⟩ fps s s') (hi : fps.map (·.i) = List.range l.length) (hc : (textOk ⟨l⟩ && dstOk C.n ⟨l⟩ && chkP ⟨l⟩ (masks l) fps) = true)
    (hn : ∀ x ∈ fps, ∀ d ∈ x.F, s.noId d) (h : Q .normal s') : CQ E C (.region id ⟨l⟩ true) s Q := by
  intro a w hs
  simp only [Bool.and_eq_true] at hc
  refine wp_region_any E.mixed (run_any hc.1.1 (s' := s') (fun a w hs => ⟨.normal, s', rfl, h, hs⟩) hc.1.2 l.length (Array.replicate l.length false) fps s a _ ?_ (by simp) ?_ ?_ ?_ hr hc.2 hn)
  · obtain ⟨ρ, hs⟩ := hs
    exact ⟨ρ, hs.world (Keep.drew _ w)⟩
  · rw [hi]
    symm
    apply List.filter_eq_self.2
    intro j hj
    have : j < l.length := by simpa using hj
    simp [Array.getD_eq_getD_getElem?, this]
  · have := congrArg List.length hi; simp at this; omega
  · intro j o hj
    simp only [Array.getD_eq_getD_getElem?, Array.getElem?_replicate] at hj
    split at hj <;> simp at hj
theorem CQ.regT {id : Nat} {l : List Oper} {fps : List FP} {s' : AS} (hr : Run E ⟨l⟩ fps s s') (hi : fps.map (·.i) = List.range l.length) (hc : (dstOk C.n ⟨l⟩ && chkF fps) = true)
    (hn : ∀ x ∈ fps, ∀ d ∈ x.F, s.noId d) (h : Q .normal s') : CQ E C (.region id ⟨l⟩ false) s Q := by
  intro a w hs
  simp only [Bool.and_eq_true] at hc
  refine wp_region ?_
  have := run_text (ops := ⟨l⟩) (s' := s') (fun a w hs => ⟨.normal, s', rfl, h, hs⟩) hc.1 fps s a w hs hr hc.2 hn (Q := PostQ C Q)
  rw [hi] at this
  simpa using this

theorem wp_loop_rel {P : Program} {c : Code} {Q : Exit → Act → World → Prop} {a : Act} {w : World} (J : Nat → Act → World → Prop) (h₀ : ∃ n, J n a w)
    (round : ∀ n a w, J n a w → c.wp P (Exit.then (fun a' w' => ∃ n', n' < n ∧ J n' a' w') Q) a w) : (Code.loop c).wp P Q a w := by
  intro b k cs
  have key : ∀ n a w, J n a w → ∃ e a' w', Q e a' w' ∧ Arrives P (lone (b.at a (.code c :: .inLoop c :: k)) cs w) b k cs e a' w' := by
    intro n
    induction n using Nat.strongRecOn with
    | _ n ih =>
      intro a w hJ
      obtain ⟨e, a₁, w₁, hq, harr⟩ := round n a w hJ b (.inLoop c :: k) cs
      cases e with
      | normal =>
        obtain ⟨n', hlt, hJ'⟩ := hq
        obtain ⟨e₂, a₂, w₂, hq₂, harr₂⟩ := ih n' hlt a₁ w₁ hJ'
        exact ⟨e₂, a₂, w₂, hq₂, .of_steps (Steps.trans harr (.one step_inLoop)) harr₂⟩
      | exit id => exact ⟨_, a₁, w₁, hq, .pass (x := .inLoop c) rfl (fun _ _ => .inl (by simp)) harr⟩
      | goto l => exact ⟨_, a₁, w₁, hq, .pass (x := .inLoop c) rfl (fun _ _ => .inl (by simp)) harr⟩
      | ret => exact ⟨_, a₁, w₁, hq, .pass (x := .inLoop c) rfl (fun _ _ => .inl (by simp)) harr⟩
      | panic ch => exact ⟨_, a₁, w₁, hq, .pass (x := .inLoop c) rfl (fun _ _ => .inl (by simp)) harr⟩
      | outgrown => exact ⟨_, a₁, w₁, hq, .pass (x := .inLoop c) rfl (fun _ _ => .inl (by simp)) harr⟩
  obtain ⟨n, hJ⟩ := h₀
  obtain ⟨e, a', w', hq, harr⟩ := key n a w hJ
  exact ⟨e, a', w', hq, .of_steps (.one step_loop) harr⟩

/-! ### forgetting -/
inductive WkA (m m' : Nat → Option Ob) : AV → AV → Prop where
  | any (x : AV) : WkA m m' x .any
  | refl (x : AV) : WkA m m' x x
  | le {x y : CV} (h : LeC x y) : WkA m m' (.c x) (.c y)
  | agg {xs ys : List AV} (hn : xs.length = ys.length) (h : ∀ (j : Nat) (x y : AV), xs[j]? = some x → ys[j]? = some y → WkA m m' x y) : WkA m m' (.agg xs) (.agg ys)
  | aggC {xs : List AV} {ys : List CV} (hn : xs.length = ys.length) (h : ∀ (j : Nat) (x : AV) (y : CV), xs[j]? = some x → ys[j]? = some y → WkA m m' x (.c y)) : WkA m m' (.agg xs) (.c (.agg ys))
  | ms {i n sz e : Nat} {xs : List CV} (hm : m i = some (.arr sz e xs)) (hn : xs.length = n) (hm' : m' i = none) : WkA m m' (.ms i n) (.c (.sl sz xs))

def WkO (m m' : Nat → Option Ob) : Ob → Ob → Prop
  | .box xs, .box ys => xs.length = ys.length ∧ ∀ (j : Nat) (x y : AV), xs[j]? = some x → ys[j]? = some y → WkA m m' x y
  | .arr sz e xs, .arr sz' e' ys => sz = sz' ∧ e = e' ∧ xs = ys
  | _, _ => False

structure Wk (s s' : AS) : Prop where
  t : ∀ j, WkA s.m s'.m (s.t j) (s'.t j)
  m : ∀ i o', s'.m i = some o' → ∃ o, s.m i = some o ∧ WkO s.m s'.m o o'

variable {ρ : Nat → Value} {a : Act} {w : World}

theorem Wk.turns {s' : AS} (h : Wk s s') (ρ : Nat → Value) (i : Nat) : Turns s.m s'.m ρ ρ i := by
  cases hm : s'.m i with
  | none => exact .inl hm
  | some o' =>
    obtain ⟨o, ho, hw⟩ := h.m i o' hm
    refine .inr (.inr ⟨rfl, ?_⟩)
    cases o <;> cases o' <;> simp only [WkO] at hw
    · exact .inr (.inl ⟨_, _, ho, hm⟩)
    · obtain ⟨rfl, rfl, rfl⟩ := hw
      exact .inl (by rw [hm, ho])

theorem WkA.sound (h : STr C s ρ a w) {s' : AS} (hk : Wk s s') (hT : ∀ b, C.T0 b → ¬ C.L0 b) {x y : AV} (hxy : WkA s.m s'.m x y) :
    ∀ v, RepA w (LL C s.m ρ) ρ s.m v x → RepA w (LL C s'.m ρ) ρ s'.m v y := by
  have hLL : ∀ b, LL C s'.m ρ b → LL C s.m ρ b := by
    rintro b (hb | ⟨i, o, hi, hb⟩)
    · exact .inl hb
    · obtain ⟨o', ho', _⟩ := hk.m i o hi
      exact .inr ⟨i, o', ho', hb⟩
  have hkeep : ∀ v x, RepA w (LL C s.m ρ) ρ s.m v x → RepA w (LL C s'.m ρ) ρ s'.m v x := fun v x hv =>
    hv.keep (fun b hb _ hb' => hb (hLL b hb')) (fun _ _ _ => rfl) fun i => .inr (hk.turns ρ i)
  induction hxy with
  | any x => exact fun v _ => .any v
  | refl x => exact fun v hv => hkeep v x hv
  | le h => intro v hv; exact .c (h.rep v (hkeep v _ hv).c_inv)
  | agg hn h ih =>
    intro v hv
    cases hv with
    | agg hn' hx =>
      refine .agg (hn'.trans hn) fun j y hy => ?_
      rename_i xs ys vs
      have hj : j < xs.length := by rw [hn]; exact (List.getElem?_eq_some_iff.1 hy).1
      exact ih j _ y (List.getElem?_eq_getElem hj) hy _ (hx j _ (List.getElem?_eq_getElem hj))
  | aggC hn h ih =>
    intro v hv
    cases hv with
    | agg hn' hx =>
      refine .c (.agg (hn'.trans hn) fun j y hy => ?_)
      rename_i xs ys vs
      have hj : j < xs.length := by rw [hn]; exact (List.getElem?_eq_some_iff.1 hy).1
      exact (ih j _ y (List.getElem?_eq_getElem hj) hy _ (hx j _ (List.getElem?_eq_getElem hj))).c_inv
  | ms hm hn hm' =>
    rename_i i n sz e xs
    intro v hv
    have hv2 := (hv.ms_inv _ _ _ hm).2 hn
    obtain ⟨h0, vs, hown, hx⟩ := h.obj i _ hm
    refine .c ?_
    rw [hv2]
    rcases hown.2 with ⟨e1, e2⟩ | ⟨g, o, cap, cur, e1, hgg, hnc, hcm, hcs, htake⟩
    · have hxs : xs = [] := List.eq_nil_of_length_eq_zero e2
      subst hxs
      rw [e1]
      exact Rep.sl_mk rfl (Nat.le_refl _) (by simp [maxLen]) h0 (fun h => absurd h (by simp)) (fun i x hx => by simp at hx)
    · rw [e1]
      have hnl : ¬ LL C s'.m ρ g := by
        have hblk : Value.blk (ρ i) = some g := by rw [e1]; rfl
        have hown' := h.own i _ g hm hblk
        rintro (hb | ⟨k, ok, hk', hb⟩)
        · rcases hown'.1 with ht | ht
          · exact hT g ht hb
          · have := h.old g hb; omega
        · obtain ⟨o', ho', _⟩ := hk.m k ok hk'
          have := h.inj k i _ _ g ho' hm hb hblk
          subst this; rw [hm'] at hk'; cases hk'
      refine Rep.sl_mk rfl hnc hcm h0 (fun hp => ⟨g, o, rfl, hnl, fun k x hkx j y hjy => ?_⟩) fun k x hkx => (hx k x hkx).1
      obtain ⟨_, b, p, cap', hu, hc⟩ := (h.obj i _ hm).arr_cell hkx
      rw [e1] at hu; cases hu
      obtain ⟨u, hu, hr⟩ := hc j y hjy
      exact ⟨u, by simpa using hu, hr.keep (fun b hb _ hb' => hb (hLL b hb')) fun _ _ _ => rfl⟩

theorem STr.weak (h : STr C s ρ a w) {s' : AS} (hk : Wk s s') (hT : ∀ b, C.T0 b → ¬ C.L0 b) : STr C s' ρ a w := by
  refine ⟨h.keep, h.old, h.size, h.defers, fun i o' hi => ?_, fun i o b hi hb => ?_, fun i j oi oj b hi hj hbi hbj => ?_, fun j => (hk.t j).sound h hk hT _ (h.tmp j), h.fix⟩
  · obtain ⟨o, ho, hw⟩ := hk.m i o' hi
    have hob := h.obj i o ho
    cases o <;> cases o' <;> simp only [WkO] at hw
    · obtain ⟨b, cs, ty, h1, h2, h3, h4⟩ := hob
      refine ⟨b, cs, ty, h1, h2, by omega, fun j y hy => ?_⟩
      rename_i xs ys
      have hj : j < xs.length := by rw [hw.1]; exact (List.getElem?_eq_some_iff.1 hy).1
      exact (hw.2 j _ y (List.getElem?_eq_getElem hj) hy).sound h hk hT _ (h4 j _ (List.getElem?_eq_getElem hj))
    · obtain ⟨rfl, rfl, rfl⟩ := hw
      refine hob.keep (fun b hb _ hb' => hb ?_) (fun _ _ _ => rfl) (fun _ _ => rfl) fun k => .inr (hk.turns ρ k)
      rcases hb' with hb' | ⟨k, ok, hk', hb'⟩
      · exact .inl hb'
      · obtain ⟨o', ho', _⟩ := hk.m k ok hk'
        exact .inr ⟨k, o', ho', hb'⟩
  · obtain ⟨o', ho', _⟩ := hk.m i o hi
    exact h.own i o' b ho' hb
  · obtain ⟨o1, h1, _⟩ := hk.m i oi hi
    obtain ⟨o2, h2, _⟩ := hk.m j oj hj
    exact h.inj i j o1 o2 b h1 h2 hbi hbj

def WkM (m m1 m' : Nat → Option Ob) : Prop := ∀ i o', m' i = some o' → ∃ o, m i = some o ∧ WkO m m1 o o'
theorem CQ.weak {c : Code} {s' : AS} (hk : Wk s s') (hT : ∀ b, C.T0 b → ¬ C.L0 b) (h : CQ E C c s' Q) : CQ E C c s Q := fun a w ⟨ρ, hs⟩ => h a w ⟨ρ, hs.weak hk hT⟩

/-- A loop: at each round's head the state is S x, of some x that is right; each round lowers a measure. -/
theorem CQ.loop {ι : Type} {c : Code} (hT : ∀ b, C.T0 b → ¬ C.L0 b) (S : ι → AS) (Inv : ι → Prop) (μ : ι → Nat) (x0 : ι) (h0 : Inv x0) (hs : Wk s (S x0))
    (round : ∀ x, Inv x → CQ E C c (S x) (thenQ (fun s' => ∃ x', Inv x' ∧ μ x' < μ x ∧ Wk s' (S x')) Q)) : CQ E C (.loop c) s Q := by
  intro a w ⟨ρ, hst⟩
  refine wp_loop_rel (fun n a w => ∃ x, Inv x ∧ μ x = n ∧ ST C (S x) a w) ⟨μ x0, x0, h0, rfl, ρ, hst.weak hs hT⟩ ?_
  rintro n a w ⟨x, hx, rfl, hsx⟩
  refine Code.wp_mono ?_ (round x hx a w hsx)
  rintro e a' w' ⟨q, s', he, hq, hs'⟩
  cases e <;> simp [Ex.ofExit] at he <;> subst he
  · obtain ⟨x', hi, hlt, hk⟩ := hq
    obtain ⟨ρ', hs'⟩ := hs'
    exact ⟨μ x', hlt, x', hi, rfl, ρ', hs'.weak hk hT⟩
  · exact ⟨_, s', rfl, hq, hs'⟩
  · exact ⟨_, s', rfl, hq, hs'⟩
end
end Go.AM

/- The abstract machine, part 19: a function's contract out of its code. It speaks of whatever program. -/
namespace Go.AM
open Go Go.RowKit
set_option linter.unusedVariables false
set_option linter.unusedSimpArgs false

inductive RetA (E : Env) (s : AS) (m1 : Nat → Option Ob) : ResultVar → AV → Prop where
  | tmp {t : Tmp} {y : AV} (h : WkA s.m m1 (s.t t) y) : RetA E s m1 (.tmp t) y
  | cellS {t : Tmp} {ty : TypeId} {i off : Nat} {cells : List AV} {d : TD} {x y : AV} (ht : s.t t = .loc i off) (hm : s.m i = some (.box cells)) (hd : E.Ty ty = some d) (ha : aggD d.desc = false)
      (hx : cells[off]? = some x) (h : WkA s.m m1 x y) : RetA E s m1 (.cell t ty) y
  | cellA {t : Tmp} {ty : TypeId} {i off : Nat} {cells : List AV} {d : TD} {y : AV} (ht : s.t t = .loc i off) (hm : s.m i = some (.box cells)) (hd : E.Ty ty = some d) (ha : aggD d.desc = true)
      (hl : off + d.sz ≤ cells.length) (h : WkA s.m m1 (.agg ((cells.drop off).take d.sz)) y) : RetA E s m1 (.cell t ty) y
inductive RetL (E : Env) (s : AS) (m1 : Nat → Option Ob) : List ResultVar → List AV → Prop where
  | nil : RetL E s m1 [] []
  | cons {r : ResultVar} {x : AV} {rs : List ResultVar} {xs : List AV} (h : RetA E s m1 r x) (hs : RetL E s m1 rs xs) : RetL E s m1 (r :: rs) (x :: xs)

/-- What a function that hands objects back (b) leaves. -/
def retO (E : Env) (rvs : List ResultVar) (rs : List AV) (b : List (Nat × Ob)) : Ex → AS → Prop
  | .exit _, _ => False
  | _, s => WkM s.m (mkM b) (mkM b) ∧ RetL E s (mkM b) rvs rs
def retQ (E : Env) (rvs : List ResultVar) (rs : List CV) : Ex → AS → Prop := retO E rvs (rs.map .c) []

section
variable {E : Env} {C : Ctx} {s : AS} {ρ : Nat → Value} {a : Act} {w : World}

def rvRun (tmps : Array Value) : ResultVar → Sem Value
  | .tmp t => pure (tmps.getD t undef)
  | .cell a t => do loadVar t (← asAddr (tmps.getD a undef))

theorem loadAt_eq (t : TypeId) (a : Addr) (w : World) (P : Program) : (Instr.loadAt t (.pointer (some a))).run P w = (loadVar t a).run P w := by
  simp [Instr.loadAt, Instr.sureAddr]

theorem RetA.run (h : STr C s ρ a w) (hT : ∀ b, C.T0 b → ¬ C.L0 b) {m1 : Nat → Option Ob} (hk : Wk s ⟨fun _ => .any, m1⟩) {r : ResultVar} {y : AV} (hr : RetA E s m1 r y) : ∃ v, (rvRun a.tmps r).run E.P w = .ok v w ∧ RepA w (LL C m1 ρ) ρ m1 v y := by
  have fin : ∀ v x, RepA w (LL C s.m ρ) ρ s.m v x → WkA s.m m1 x y → RepA w (LL C m1 ρ) ρ m1 v y := fun v x hv hx =>
    hx.sound (s' := ⟨fun _ => .any, m1⟩) h hk hT v hv
  cases hr with
  | tmp hx => exact ⟨_, rfl, fin _ _ (h.tmp _) hx⟩
  | cellS ht hm hd ha hx hw =>
    rename_i t ty i off cells d x
    have hv := h.tmp t; rw [ht] at hv
    obtain ⟨b, hρ, hv⟩ := hv.loc_inv _ hm
    obtain ⟨b', cs, ty', hu, hheap, hsz, hc, _⟩ := (h.obj i _ hm).box_cell
    rw [hρ] at hu; cases hu
    refine ⟨_, ?_, fin _ _ (hc off x hx).2 hw⟩
    have := run_loadS hd ha w b off _ (hc off x hx).1
    rw [loadAt_eq] at this
    simp only [rvRun, hv, Sem.run_bind, asAddr, Sem.run_pure, Result.andThen_ok, this]
  | cellA ht hm hd ha hl hw =>
    rename_i t ty i off cells d
    have hv := h.tmp t; rw [ht] at hv
    obtain ⟨b, hρ, hv⟩ := hv.loc_inv _ hm
    obtain ⟨b', cs, ty', hu, hheap, hsz, hc, _⟩ := (h.obj i _ hm).box_cell
    rw [hρ] at hu; cases hu
    have hlen : ((cs.toList.drop off).take d.sz).length = d.sz := by simp; omega
    have hcell : ∀ (j : Nat) (u : Value), ((cs.toList.drop off).take d.sz)[j]? = some u → w.cell? ⟨b, off + j, none⟩ = some u := by
      intro j u hj
      rw [List.getElem?_take] at hj
      split at hj
      · rw [List.getElem?_drop] at hj
        rw [cell_of_row w b (off + j) cs ty' (0, 0) hheap]
        simpa using hj
      · cases hj
    have hrun := run_loadAg hd ha w b off _ hlen hcell
    rw [loadAt_eq] at hrun
    refine ⟨.agg ⟨(cs.toList.drop off).take d.sz⟩, ?_, fin _ _ (.agg (by rw [hlen]; simp; omega) fun j z hz => ?_) hw⟩
    · simp only [rvRun, hv, Sem.run_bind, asAddr, Sem.run_pure, Result.andThen_ok, hrun]
    · rw [List.getElem?_take] at hz
      split at hz
      · rename_i hjs
        rw [List.getElem?_drop] at hz
        have := (hc _ z hz).2
        rw [show ((cs.toList.drop off).take d.sz).getD j undef = cs.getD (off + j) undef by simp [List.getD, List.getElem?_take, hjs, Array.getD_eq_getD_getElem?]]
        exact this
      · cases hz

theorem RetL.run (h : STr C s ρ a w) (hT : ∀ b, C.T0 b → ¬ C.L0 b) {m1 : Nat → Option Ob} (hk : Wk s ⟨fun _ => .any, m1⟩) : ∀ {rvs : List ResultVar} {rs : List AV}, RetL E s m1 rvs rs →
    ∃ vs, (rvs.mapM (rvRun a.tmps)).run E.P w = .ok vs w ∧ vs.length = rs.length ∧ ∀ (j : Nat) (y : AV), rs[j]? = some y → RepA w (LL C m1 ρ) ρ m1 (vs.getD j undef) y
  | [], _, .nil => ⟨[], by simp, rfl, fun j y hy => by simp at hy⟩
  | r :: rvs, x :: rs, .cons hr hs => by
    obtain ⟨v, h1, h2⟩ := hr.run h hT hk
    obtain ⟨vs, h3, h4, h5⟩ := RetL.run h hT hk hs
    refine ⟨v :: vs, by simp [List.mapM_cons, h1, h3], by simp [h4], fun j y hy => ?_⟩
    cases j with
    | zero => simp at hy; subst hy; exact h2
    | succ j => simpa using h5 j y (by simpa using hy)

theorem results_run {fn : Func} {rvs : List ResultVar} (hr : fn.results = ⟨rvs⟩) (h : STr C s ρ a w) (hT : ∀ b, C.T0 b → ¬ C.L0 b) {m1 : Nat → Option Ob} (hk : Wk s ⟨fun _ => .any, m1⟩) {rs : List AV} (hl : RetL E s m1 rvs rs) :
    ∃ v, (results fn a.tmps).run E.P w = .ok v w ∧ ResA w (LL C m1 ρ) ρ m1 v rs := by
  obtain ⟨vs, h1, h2, h3⟩ := hl.run h hT hk
  have he : results fn a.tmps = (do let vs ← (⟨rvs⟩ : Array ResultVar).mapM (rvRun a.tmps); pure (if h : vs.size = 1 then vs[0] else .tuple vs)) := by
    unfold results
    rw [hr]
    rfl
  have hm : ((⟨rvs⟩ : Array ResultVar).mapM (rvRun a.tmps)).run E.P w = .ok ⟨vs⟩ w := by
    rw [Array.mapM_eq_mapM_toList]
    simp [h1]
  refine ⟨if h : vs.length = 1 then vs[0] else .tuple ⟨vs⟩, ?_, ?_⟩
  · rw [he]
    simp only [Sem.run_bind, hm, Result.andThen_ok, Sem.run_pure]
    by_cases h1 : vs.length = 1
    · simp [h1]
    · simp [h1]
  · unfold ResA
    split
    · rename_i x
      have hl1 : vs.length = 1 := by simpa using h2
      rw [dif_pos hl1]
      have := h3 0 x rfl
      rwa [show vs.getD 0 undef = vs[0] by simp [List.getD, hl1]] at this
    · rename_i hne
      have hl1 : ¬ vs.length = 1 := by
        intro e
        rw [h2] at e
        obtain ⟨x, hx⟩ := List.length_eq_one_iff.1 e
        exact hne x hx
      rw [dif_neg hl1]
      exact ⟨vs, rfl, h2, h3⟩

/-- How a function begins. -/
def argA (xs : List AV) : Nat → AV := fun j => match xs[j]? with | some x => x | none => .any

/-- A FUNCTION'S CONTRACT OUT OF ITS CODE. -/
theorem Own.of {f : FuncId} {fn : Func} {c : Code} {xs rs : List AV} {oa ob : List (Nat × Ob)} {rvs : List ResultVar} (hf : E.P.funcs[f]? = some fn) (hb : fn.body = some c) (hname : (fn.name == "runtime.NumGoroutine") = false) (hr : fn.results = ⟨rvs⟩)
    (hn : xs.length ≤ fn.ntmps) (hn0 : fn.ntmps ≤ 1000000) (h6 : ∀ p ∈ oa, 1000000 ≤ p.1) (like : ∀ i o o', mkM oa i = some o → mkM ob i = some o' → o.like o') (clo : ∀ k, k ∉ oa.map (·.1) → k ∉ ob.map (·.1) → NoMen k rs ob)
    (root : ∀ k, k ∈ oa.map (·.1) → ¬ NoMen k xs oa)
    (h : ∀ C : Ctx, C.n = fn.ntmps → CQ E C c ⟨argA xs, mkM oa⟩ (retO E rvs rs ob)) : Own E.P f xs oa rs ob := by
  refine ⟨⟨fn, hf, by rw [hb]; rfl, hname⟩, like, clo, root, fun w L ρ vs hl hx hL ho => ?_⟩
  refine calls_of_wp hf hb ?_
  have hT : ∀ b, live (mkM oa) ρ b → ¬ L b := fun b ⟨i, o, hi, hb⟩ => (ho.own i o b hi hb).1
  have hC := h ⟨w, live (mkM oa) ρ, L, fn.ntmps, ρ, hn0, hT⟩ rfl
  have hst : ST ⟨w, live (mkM oa) ρ, L, fn.ntmps, ρ, hn0, hT⟩ ⟨argA xs, mkM oa⟩ { tmps := ⟨vs⟩ ++ Array.replicate (fn.ntmps - (⟨vs⟩ : Array Value).size) undef, defers := [] } w := by
    refine ⟨ρ, { keep := Keep.refl _ _, old := hL, size := by simp; omega, defers := rfl, obj := ho.obj, own := fun i o b hi hb => ⟨.inl ⟨i, o, hi, hb⟩, (ho.own i o b hi hb).2⟩, inj := ho.inj, tmp := fun j => ?_, fix := fun _ _ => rfl }⟩
    show RepA _ _ _ _ _ (match xs[j]? with | some x => x | none => .any)
    cases hj : xs[j]? with
    | none => exact .any _
    | some x =>
      have hjl : j < vs.length := by rw [hl]; exact (List.getElem?_eq_some_iff.1 hj).1
      have e : (((⟨vs⟩ : Array Value) ++ Array.replicate (fn.ntmps - (⟨vs⟩ : Array Value).size) undef).getD j undef) = vs.getD j undef := by
        simp [Array.getD_eq_getD_getElem?, Array.getElem?_append, hjl, List.getD]
      rw [e]
      exact hx j x hj
  refine Code.wp_mono ?_ (hC _ _ hst)
  rintro e a' w' ⟨x, s', he, hq, ρ', hs'⟩
  have fin : WkM s'.m (mkM ob) (mkM ob) ∧ RetL E s' (mkM ob) rvs rs → a'.defers = [] ∧ ∃ v, (results fn a'.tmps).run E.P w' = .ok v w' ∧ ∃ v' ρ', Ending.returned v = .returned v' ∧ ResA w' (fun k => L k ∨ live (mkM ob) ρ' k) ρ' (mkM ob) v' rs ∧ Objs w' L ρ' (mkM ob) ∧
      Keep (live (mkM oa) ρ) w w' ∧ (∀ i o k, mkM ob i = some o → Value.blk (ρ' i) = some k → live (mkM oa) ρ k ∨ w.heap.size ≤ k) ∧ ∀ i o o', mkM oa i = some o → mkM ob i = some o' → ρ' i = ρ i := by
    rintro ⟨hm, hl⟩
    have hk : Wk s' ⟨fun _ => .any, mkM ob⟩ := ⟨fun j => .any _, hm⟩
    obtain ⟨v, h1, h2⟩ := results_run hr hs' hT hk hl
    have hw := hs'.weak hk hT
    refine ⟨hs'.defers, v, h1, v, ρ', rfl, h2, ⟨hw.obj, fun i o b hi hb => ?_, hw.inj⟩, hs'.keep, fun i o k hi hb => (hw.own i o k hi hb).1, fun i o o' hi _ => hw.fix i (h6 _ (mkM_mem hi))⟩
    obtain ⟨h3, h4⟩ := hw.own i o b hi hb
    refine ⟨fun hLb => ?_, h4⟩
    rcases h3 with h3 | h3
    · exact hT b h3 hLb
    · have : b < w.heap.size := hL b hLb
      have h3 : w.heap.size ≤ b := h3
      omega
  cases e <;> simp [Ex.ofExit] at he <;> subst he
  · exact fin hq
  · exact hq.elim
  · exact fin hq

theorem Own.pure {f : FuncId} {args rs : List CV} (h : Own E.P f (args.map .c) [] (rs.map .c) []) : Pure E.P f args rs := by
  refine ⟨h.body, fun w L vs hl hx hL => ?_⟩
  have hlv : ∀ (ρ : Nat → Value) b, ¬ live (mkM []) ρ b := fun ρ b ⟨i, o, hi, _⟩ => by cases hi
  refine (h.call w L (fun _ => undef) vs (by simpa using hl) (fun j y hy => ?_) hL ⟨fun i o hi => (by cases hi), fun i o b hi => (by cases hi), fun i j oi oj b hi => (by cases hi)⟩).mono ?_
  · rw [List.getElem?_map] at hy
    obtain ⟨z, hz, rfl⟩ := Option.map_eq_some_iff.1 hy
    exact .c ((hx j z hz).keep (fun b hb _ hb' => hb' |>.elim hb (hlv _ b)) fun _ _ _ => rfl)
  · rintro e w' ⟨v, ρ', he, hr, _, hk, _⟩
    refine ⟨v, he, ?_, hk.mono fun b _ hb => (hlv _ b hb).elim⟩
    have hrep : ∀ {u : Value} {x : CV}, RepA w' (fun k => L k ∨ live (mkM []) ρ' k) ρ' (mkM []) u (.c x) → Rep w' L u x := fun hu =>
      hu.c_inv.keep (fun b hb _ hb' => hb (.inl hb')) fun _ _ _ => rfl
    unfold ResA at hr; unfold ResRel
    match rs, hr with
    | [x], hr => exact hrep hr
    | [], ⟨us, h1, h2, h3⟩ => exact ⟨us, h1, by simpa using h2, fun j y hy => by simp at hy⟩
    | x :: y :: r, ⟨us, h1, h2, h3⟩ => exact ⟨us, h1, by simpa using h2, fun j z hz => hrep (h3 j (.c z) (show ((x :: y :: r).map AV.c)[j]? = some (.c z) by rw [List.getElem?_map, hz]; rfl))⟩
def AS.init (args : List CV) : AS := ⟨argA (args.map .c), mkM []⟩
theorem Pure.of {f : FuncId} {fn : Func} {c : Code} {args rs : List CV} {rvs : List ResultVar} (hf : E.P.funcs[f]? = some fn) (hb : fn.body = some c) (hname : (fn.name == "runtime.NumGoroutine") = false) (hr : fn.results = ⟨rvs⟩)
    (hn : args.length ≤ fn.ntmps) (hn0 : fn.ntmps ≤ 1000000) (h : ∀ C : Ctx, C.n = fn.ntmps → CQ E C c (AS.init args) (retQ E rvs rs)) : Pure E.P f args rs := by
  refine Own.pure (Own.of hf hb hname hr (by simpa using hn) hn0 (fun p hp => by simp at hp) (fun i o o' hi => by cases hi) (fun k _ _ => ⟨fun x hx => ?_, fun p hp => by simp at hp⟩) (fun k hk => by simp at hk) h)
  obtain ⟨z, _, rfl⟩ := List.mem_map.1 hx
  exact .c _
end
end Go.AM

/- The abstract machine, part 21: contracts over objects, their names turned. It speaks of whatever program. -/
namespace Go.AM
open Go Go.RowKit
set_option linter.unusedVariables false
set_option linter.unusedSimpArgs false

inductive Ren (r : Nat → Nat) : AV → AV → Prop where
  | any : Ren r .any .any
  | c (x : CV) : Ren r (.c x) (.c x)
  | loc {i j off : Nat} (h : r i = j) : Ren r (.loc i off) (.loc j off)
  | ms {i j n : Nat} (h : r i = j) : Ren r (.ms i n) (.ms j n)
  | agg {xs ys : List AV} (hn : xs.length = ys.length) (h : ∀ (j : Nat) (x y : AV), xs[j]? = some x → ys[j]? = some y → Ren r x y) : Ren r (.agg xs) (.agg ys)
def RenL (r : Nat → Nat) (xs ys : List AV) : Prop := xs.length = ys.length ∧ ∀ (j : Nat) (x y : AV), xs[j]? = some x → ys[j]? = some y → Ren r x y
theorem RenL.nil {r : Nat → Nat} : RenL r [] [] := ⟨rfl, fun j x y hx => by simp at hx⟩
theorem RenL.cons {r : Nat → Nat} {x y : AV} {xs ys : List AV} (h : Ren r x y) (hs : RenL r xs ys) : RenL r (x :: xs) (y :: ys) := by
  refine ⟨by simp [hs.1], fun j a b ha hb => ?_⟩
  cases j with
  | zero => simp at ha hb; subst ha; subst hb; exact h
  | succ j => simp at ha hb; exact hs.2 j a b ha hb
theorem RenL.all {r : Nat → Nat} : ∀ (cs : List CV), RenL r (cs.map .c) (cs.map .c)
  | [] => .nil
  | c :: cs => .cons (.c c) (RenL.all cs)
theorem Ren.aggs {r : Nat → Nat} {xs ys : List AV} (h : RenL r xs ys) : Ren r (.agg xs) (.agg ys) := .agg h.1 h.2
inductive RenO (r : Nat → Nat) : Ob → Ob → Prop where
  | box {xs ys : List AV} (h : RenL r xs ys) : RenO r (.box xs) (.box ys)
  | arr (sz e : Nat) (xs : List CV) : RenO r (.arr sz e xs) (.arr sz e xs)
inductive RenM (r : Nat → Nat) : List (Nat × Ob) → List (Nat × Ob) → Prop where
  | nil : RenM r [] []
  | cons {i j : Nat} {o o' : Ob} {l l' : List (Nat × Ob)} (hi : r i = j) (ho : RenO r o o') (h : RenM r l l') : RenM r ((i, o) :: l) ((j, o') :: l')

section
variable {r : Nat → Nat} (hr : ∀ i j, r i = r j → i = j)
include hr
theorem RenM.to {l l' : List (Nat × Ob)} (h : RenM r l l') : ∀ {i o}, mkM l i = some o → ∃ o', mkM l' (r i) = some o' ∧ RenO r o o' := by
  induction h with
  | nil => intro i o hi; cases hi
  | cons hi ho h ih =>
    rename_i a b o o' l l'
    intro i q hq
    by_cases e : i = a
    · subst e; simp only [mkM, updM_same] at hq; cases hq
      exact ⟨o', by subst hi; simp only [mkM, updM_same], ho⟩
    · simp only [mkM, updM_ne _ _ e] at hq
      obtain ⟨q', h1, h2⟩ := ih hq
      exact ⟨q', by subst hi; simp only [mkM, updM_ne _ _ (fun e' => e (hr _ _ e')), h1], h2⟩
omit hr in
theorem RenM.from {l l' : List (Nat × Ob)} (h : RenM r l l') : ∀ {k o'}, mkM l' k = some o' → ∃ i o, r i = k ∧ mkM l i = some o ∧ RenO r o o' := by
  induction h with
  | nil => intro i o hi; cases hi
  | cons hi ho h ih =>
    rename_i a b o o' l l'
    intro k q hq
    by_cases e : k = b
    · subst e; simp only [mkM, updM_same] at hq; cases hq
      exact ⟨a, o, hi, by simp only [mkM, updM_same], ho⟩
    · simp only [mkM, updM_ne _ _ e] at hq
      obtain ⟨i, q', h1, h2, h3⟩ := ih hq
      exact ⟨i, q', h1, by simp only [mkM, updM_ne _ _ (show i ≠ a from fun e' => e (by rw [← h1, e', hi])), h2], h3⟩
theorem RenM.mem {l l' : List (Nat × Ob)} (h : RenM r l l') {k : Nat} : k ∈ l'.map (·.1) ↔ ∃ i, r i = k ∧ i ∈ l.map (·.1) := by
  constructor
  · intro hk
    obtain ⟨o, ho⟩ := mkM_some hk
    obtain ⟨i, q, h1, h2, _⟩ := h.from ho
    exact ⟨i, h1, List.mem_map.2 ⟨_, mkM_mem h2, rfl⟩⟩
  · rintro ⟨i, rfl, hi⟩
    obtain ⟨o, ho⟩ := mkM_some hi
    obtain ⟨o', h1, _⟩ := h.to hr ho
    exact List.mem_map.2 ⟨_, mkM_mem h1, rfl⟩
omit hr in
theorem RenM.mem2 {l l' : List (Nat × Ob)} (h : RenM r l l') : (∀ p' ∈ l', ∃ p ∈ l, RenO r p.2 p'.2) ∧ ∀ p ∈ l, ∃ p' ∈ l', RenO r p.2 p'.2 := by
  induction h with
  | nil => exact ⟨fun p hp => by simp at hp, fun p hp => by simp at hp⟩
  | cons hi ho h ih =>
    refine ⟨fun p hp => ?_, fun p hp => ?_⟩
    · rcases List.mem_cons.1 hp with rfl | hp
      · exact ⟨_, List.mem_cons_self, ho⟩
      · obtain ⟨q, hq, hh⟩ := ih.1 p hp; exact ⟨q, List.mem_cons_of_mem _ hq, hh⟩
    · rcases List.mem_cons.1 hp with rfl | hp
      · exact ⟨_, List.mem_cons_self, ho⟩
      · obtain ⟨q, hq, hh⟩ := ih.2 p hp; exact ⟨q, List.mem_cons_of_mem _ hq, hh⟩
omit hr in
theorem Ren.noId {x y : AV} (h : Ren r x y) : ∀ k, (∀ i, r i = k → NoId i x) → NoId k y := by
  induction h with
  | any => exact fun _ _ => .any
  | c x => exact fun _ _ => .c _
  | loc h =>
    intro k hk
    refine .loc fun e => ?_
    cases hk _ (h.trans e) with | loc hn => exact hn rfl
  | ms h =>
    intro k hk
    refine .ms fun e => ?_
    cases hk _ (h.trans e) with | ms hn => exact hn rfl
  | agg hn h ih =>
    intro k hk
    refine .agg fun j y hy => ?_
    rename_i xs ys
    have hj : j < xs.length := by rw [hn]; exact (List.getElem?_eq_some_iff.1 hy).1
    exact ih j _ y (List.getElem?_eq_getElem hj) hy k fun i hi => by
      cases hk i hi with | agg hx => exact hx j _ (List.getElem?_eq_getElem hj)
omit hr in
theorem Ren.noId_back {x y : AV} (h : Ren r x y) : ∀ i, NoId (r i) y → NoId i x := by
  induction h with
  | any => exact fun _ _ => .any
  | c x => exact fun _ _ => .c _
  | loc h => intro i hi; refine .loc fun e => ?_; cases hi with | loc hn => exact hn (by rw [← h, e])
  | ms h => intro i hi; refine .ms fun e => ?_; cases hi with | ms hn => exact hn (by rw [← h, e])
  | agg hn h ih =>
    intro i hi
    refine .agg fun j x hx => ?_
    rename_i xs ys
    have hj : j < ys.length := by rw [← hn]; exact (List.getElem?_eq_some_iff.1 hx).1
    exact ih j x _ hx (List.getElem?_eq_getElem hj) i (by cases hi with | agg hy => exact hy j _ (List.getElem?_eq_getElem hj))
omit hr in
theorem RenL.noId {xs ys : List AV} (h : RenL r xs ys) (k : Nat) (hk : ∀ i, r i = k → ∀ x ∈ xs, NoId i x) : ∀ y ∈ ys, NoId k y := by
  intro y hy
  obtain ⟨j, hj⟩ := List.mem_iff_getElem?.1 hy
  have hl : j < xs.length := by rw [h.1]; exact (List.getElem?_eq_some_iff.1 hj).1
  exact (h.2 j _ y (List.getElem?_eq_getElem hl) hj).noId k fun i hi => hk i hi _ (List.getElem_mem hl)
omit hr in
theorem RenL.noId_back {xs ys : List AV} (h : RenL r xs ys) (i : Nat) (hk : ∀ y ∈ ys, NoId (r i) y) : ∀ x ∈ xs, NoId i x := by
  intro x hx
  obtain ⟨j, hj⟩ := List.mem_iff_getElem?.1 hx
  have hl : j < ys.length := by rw [← h.1]; exact (List.getElem?_eq_some_iff.1 hj).1
  exact (h.2 j x _ hj (List.getElem?_eq_getElem hl)).noId_back i (hk _ (List.getElem_mem hl))
omit hr in
theorem RenO.noId {o o' : Ob} (h : RenO r o o') (k : Nat) (hk : ∀ i, r i = k → o.noId i) : o'.noId k := by
  cases h with
  | arr sz e xs => trivial
  | box h =>
    intro j y hy
    exact h.noId k (fun i hi x hx => by obtain ⟨q, hq⟩ := List.mem_iff_getElem?.1 hx; exact hk i hi q x hq) y (List.mem_of_getElem? hy)
omit hr in
theorem RenO.noId_back {o o' : Ob} (h : RenO r o o') (i : Nat) (hk : o'.noId (r i)) : o.noId i := by
  cases h with
  | arr sz e xs => trivial
  | box h =>
    intro j y hy
    exact h.noId_back i (fun z hz => by obtain ⟨q, hq⟩ := List.mem_iff_getElem?.1 hz; exact hk q z hq) y (List.mem_of_getElem? hy)

theorem Ren.rep_back {w : World} {L : Nat → Prop} {ρ ρb : Nat → Value} (hρ : ∀ i, ρb i = ρ (r i)) {l l' : List (Nat × Ob)} (hl : RenM r l l') {x y : AV} (h : Ren r x y) : ∀ v, RepA w L ρ (mkM l') v y → RepA w L ρb (mkM l) v x := by
  induction h with
  | any => exact fun v _ => .any v
  | c x => exact fun v hv => .c hv.c_inv
  | loc h =>
    subst h
    intro v hv
    refine .loc fun cells hc => ?_
    obtain ⟨o', h1, h2⟩ := hl.to hr hc
    cases h2 with | box h2 => rw [hρ]; exact hv.loc_inv _ h1
  | ms h =>
    subst h
    intro v hv
    refine .ms fun sz e xs hc => ?_
    obtain ⟨o', h1, h2⟩ := hl.to hr hc
    cases h2 with | arr => rw [hρ]; exact hv.ms_inv _ _ _ h1
  | agg hn h ih =>
    intro v hv
    cases hv with
    | agg hn' hx =>
      refine .agg (hn'.trans hn.symm) fun j x hx' => ?_
      rename_i xs ys vs
      have hj : j < ys.length := by rw [← hn]; exact (List.getElem?_eq_some_iff.1 hx').1
      exact ih j x _ hx' (List.getElem?_eq_getElem hj) _ (hx j _ (List.getElem?_eq_getElem hj))
theorem Ren.rep {w : World} {L : Nat → Prop} {ρ ρb : Nat → Value} (hρ : ∀ i, ρb i = ρ (r i)) {l l' : List (Nat × Ob)} (hl : RenM r l l') {x y : AV} (h : Ren r x y) : ∀ v, RepA w L ρb (mkM l) v x → RepA w L ρ (mkM l') v y := by
  induction h with
  | any => exact fun v _ => .any v
  | c x => exact fun v hv => .c hv.c_inv
  | loc h =>
    rename_i i j off
    subst h
    intro v hv
    refine .loc fun cells hc => ?_
    obtain ⟨i', o, h1, h2, h3⟩ := hl.from hc
    have := hr _ _ h1; subst this
    cases h3 with | box h3 => rw [← hρ]; exact hv.loc_inv _ h2
  | ms h =>
    rename_i i j n
    subst h
    intro v hv
    refine .ms fun sz e xs hc => ?_
    obtain ⟨i', o, h1, h2, h3⟩ := hl.from hc
    have := hr _ _ h1; subst this
    cases h3 with | arr => rw [← hρ]; exact hv.ms_inv _ _ _ h2
  | agg hn h ih =>
    intro v hv
    cases hv with
    | agg hn' hx =>
      refine .agg (hn'.trans hn) fun j y hy => ?_
      rename_i xs ys vs
      have hj : j < xs.length := by rw [hn]; exact (List.getElem?_eq_some_iff.1 hy).1
      exact ih j _ y (List.getElem?_eq_getElem hj) hy _ (hx j _ (List.getElem?_eq_getElem hj))
theorem ren_live {ρ ρb : Nat → Value} (hρ : ∀ i, ρb i = ρ (r i)) {l l' : List (Nat × Ob)} (hl : RenM r l l') (b : Nat) : live (mkM l') ρ b ↔ live (mkM l) ρb b := by
  constructor
  · rintro ⟨k, o, hk, hb⟩
    obtain ⟨i, q, rfl, h2, _⟩ := hl.from hk
    exact ⟨i, q, h2, by rw [hρ]; exact hb⟩
  · rintro ⟨i, o, hi, hb⟩
    obtain ⟨o', h1, _⟩ := hl.to hr hi
    exact ⟨r i, o', h1, by rw [← hρ]; exact hb⟩
theorem RenO.obRel {w : World} {L L' : Nat → Prop} (hL : ∀ b, L b ↔ L' b) {ρ ρb : Nat → Value} (hρ : ∀ i, ρb i = ρ (r i)) {l l' : List (Nat × Ob)} (hl : RenM r l l') {o o' : Ob} (h : RenO r o o') (u : Value) :
    ObRel w L ρ (mkM l') u o' ↔ ObRel w L' ρb (mkM l) u o := by
  have e : L = L' := funext fun b => propext (hL b)
  subst e
  cases h with
  | arr sz e xs => exact Iff.rfl
  | box h =>
    rename_i xs ys
    constructor
    · rintro ⟨b, cs, ty, rfl, hh, hs, hc⟩
      refine ⟨b, cs, ty, rfl, hh, hs.trans h.1.symm, fun j x hx => ?_⟩
      have hj : j < ys.length := by rw [← h.1]; exact (List.getElem?_eq_some_iff.1 hx).1
      exact (h.2 j x _ hx (List.getElem?_eq_getElem hj)).rep_back hr hρ hl _ (hc j _ (List.getElem?_eq_getElem hj))
    · rintro ⟨b, cs, ty, rfl, hh, hs, hc⟩
      refine ⟨b, cs, ty, rfl, hh, hs.trans h.1, fun j y hy => ?_⟩
      have hj : j < xs.length := by rw [h.1]; exact (List.getElem?_eq_some_iff.1 hy).1
      exact (h.2 j _ y (List.getElem?_eq_getElem hj) hy).rep hr hρ hl _ (hc j _ (List.getElem?_eq_getElem hj))

/-- A CONTRACT UNDER OTHER NAMES. -/
theorem Own.ren {P : Program} {f : FuncId} {xs xs' rs rs' : List AV} {oa oa' ob ob' : List (Nat × Ob)} (h : Own P f xs oa rs ob) (hx : RenL r xs xs') (ha : RenM r oa oa') (hs : RenL r rs rs') (hb : RenM r ob ob') : Own P f xs' oa' rs' ob' := by
  have hlk : ∀ {o1 o1' o2 o2'}, RenO r o1 o1' → RenO r o2 o2' → o1.like o2 → o1'.like o2' := by
    intro o1 o1' o2 o2' h1 h2 hl
    cases h1 <;> cases h2 <;> simp only [Ob.like] at hl ⊢
    exact hl
  refine ⟨h.body, fun k o o' hk hk' => ?_, fun k hk1 hk2 => ?_, fun k hk hn => ?_, fun w L ρ vs hl hvx hL hob => ?_⟩
  · obtain ⟨i, q, rfl, h2, h3⟩ := ha.from hk
    obtain ⟨i', q', h1', h2', h3'⟩ := hb.from hk'
    have := hr _ _ h1'; subst this
    exact hlk h3 h3' (h.like i' q q' h2 h2')
  · have key : ∀ i, r i = k → NoMen i rs ob := fun i hi => h.clo i (fun hm => hk1 ((ha.mem hr).2 ⟨i, hi, hm⟩)) fun hm => hk2 ((hb.mem hr).2 ⟨i, hi, hm⟩)
    refine ⟨hs.noId k fun i hi => (key i hi).1, fun p' hp' => ?_⟩
    obtain ⟨p, hp, ho⟩ := hb.mem2.1 p' hp'
    exact ho.noId k fun i hi => (key i hi).2 p hp
  · obtain ⟨i, rfl, hi⟩ := (ha.mem hr).1 hk
    refine h.root i hi ⟨hx.noId_back i hn.1, fun p hp => ?_⟩
    obtain ⟨p', hp', ho⟩ := ha.mem2.2 p hp
    exact ho.noId_back i (hn.2 p' hp')
  · let ρb : Nat → Value := fun i => ρ (r i)
    have hρ : ∀ i, ρb i = ρ (r i) := fun _ => rfl
    have hLL : ∀ b, (L b ∨ live (mkM oa') ρ b) ↔ (L b ∨ live (mkM oa) ρb b) := fun b => by rw [ren_live hr hρ ha]
    have hLe : (fun b => L b ∨ live (mkM oa') ρ b) = (fun b => L b ∨ live (mkM oa) ρb b) := funext fun b => propext (hLL b)
    have hlive : live (mkM oa') ρ = live (mkM oa) ρb := funext fun b => propext (ren_live hr hρ ha b)
    refine (h.call w L ρb vs (hl.trans hx.1.symm) (fun j x hxj => ?_) hL ⟨fun i o hi => ?_, fun i o b hi hb => ?_, fun i j oi oj b hi hj hbi hbj => ?_⟩).mono ?_
    · have hj : j < xs'.length := by rw [← hx.1]; exact (List.getElem?_eq_some_iff.1 hxj).1
      have := hvx j _ (List.getElem?_eq_getElem hj)
      rw [hLe] at this
      exact (hx.2 j x _ hxj (List.getElem?_eq_getElem hj)).rep_back hr hρ ha _ this
    · obtain ⟨o', h1, h2⟩ := ha.to hr hi
      exact (h2.obRel hr hLL hρ ha _).1 (hob.obj _ o' h1)
    · obtain ⟨o', h1, _⟩ := ha.to hr hi
      exact hob.own _ o' b h1 hb
    · obtain ⟨oi', h1, _⟩ := ha.to hr hi
      obtain ⟨oj', h2, _⟩ := ha.to hr hj
      exact hr _ _ (hob.inj _ _ _ _ b h1 h2 hbi hbj)
    · rintro e w' ⟨v, ρ', he, hres, hobj, hk, hpl, hfx⟩
      let ρ'' : Nat → Value := fun k => ρ' (Classical.epsilon fun i => r i = k)
      have hρ' : ∀ i, ρ' i = ρ'' (r i) := by
        intro i
        have hex : ∃ j, r j = r i := ⟨i, rfl⟩
        show ρ' i = ρ' (Classical.epsilon fun j => r j = r i)
        rw [hr _ _ (Classical.epsilon_spec hex)]
      have hLe' : (fun b => L b ∨ live (mkM ob') ρ'' b) = (fun b => L b ∨ live (mkM ob) ρ' b) := funext fun b => propext (by rw [ren_live hr hρ' hb])
      have hLL' : ∀ b, (L b ∨ live (mkM ob') ρ'' b) ↔ (L b ∨ live (mkM ob) ρ' b) := fun b => by rw [ren_live hr hρ' hb]
      refine ⟨v, ρ'', he, ?_, ⟨fun k o' hk' => ?_, fun k o' b hk' hbk => ?_, fun k l ok ol b hk' hl' hbk hbl => ?_⟩, hlive ▸ hk, fun k o' b hk' hbk => ?_, fun k o o' hk1 hk2 => ?_⟩
      · rw [hLe']
        have hlen := hs.1
        unfold ResA at hres ⊢
        have one : ∀ (j : Nat) (x y : AV), rs[j]? = some x → rs'[j]? = some y → ∀ u, RepA w' (fun k => L k ∨ live (mkM ob) ρ' k) ρ' (mkM ob) u x → RepA w' (fun k => L k ∨ live (mkM ob) ρ' k) ρ'' (mkM ob') u y :=
          fun j x y hx' hy u hu => (hs.2 j x y hx' hy).rep hr hρ' hb u hu
        have tup : ∀ us : List Value, v = .tuple ⟨us⟩ → us.length = rs.length → (∀ (j : Nat) (y : AV), rs[j]? = some y → RepA w' (fun k => L k ∨ live (mkM ob) ρ' k) ρ' (mkM ob) (us.getD j undef) y) →
            ∃ us : List Value, v = .tuple ⟨us⟩ ∧ us.length = rs'.length ∧ ∀ (j : Nat) (y : AV), rs'[j]? = some y → RepA w' (fun k => L k ∨ live (mkM ob) ρ' k) ρ'' (mkM ob') (us.getD j undef) y := by
          intro us h1 h2 h3
          refine ⟨us, h1, h2.trans hlen, fun j y hy => ?_⟩
          have hj : j < rs.length := by rw [hlen]; exact (List.getElem?_eq_some_iff.1 hy).1
          exact one j _ y (List.getElem?_eq_getElem hj) hy _ (h3 j _ (List.getElem?_eq_getElem hj))
        match rs, rs', hlen, hres, one, tup with
        | [x], [y], _, hres, one, _ => exact one 0 x y rfl rfl v hres
        | [], [], _, ⟨us, h1, h2, h3⟩, _, tup => exact tup us h1 h2 h3
        | x :: x2 :: rr, y :: y2 :: rr', _, ⟨us, h1, h2, h3⟩, _, tup => exact tup us h1 h2 h3
      · obtain ⟨i, o, rfl, h2, h3⟩ := hb.from hk'
        rw [← hρ']
        exact (h3.obRel hr hLL' hρ' hb _).2 (hobj.obj i o h2)
      · obtain ⟨i, o, rfl, h2, h3⟩ := hb.from hk'
        rw [← hρ'] at hbk
        exact hobj.own i o b h2 hbk
      · obtain ⟨i, o, rfl, h2, _⟩ := hb.from hk'
        obtain ⟨j, o2, rfl, h2', _⟩ := hb.from hl'
        rw [← hρ'] at hbk hbl
        rw [hobj.inj i j o o2 b h2 h2' hbk hbl]
      · obtain ⟨i, o, rfl, h2, h3⟩ := hb.from hk'
        rw [← hρ'] at hbk
        rw [hlive]
        exact hpl i o b h2 hbk
      · obtain ⟨i, q, rfl, h2, _⟩ := ha.from hk1
        obtain ⟨j, q', h1', h2', _⟩ := hb.from hk2
        have := hr _ _ h1'; subst this
        rw [← hρ']
        exact hfx j q q' h2 h2'
end

/-- Names for names. -/
def rn (l : List (Nat × Nat)) (k : Nat) : Nat :=
  match l with
  | [] => k
  | (a, b) :: r => bif Nat.beq k a then b else rn r k
def rnT (l : List (Nat × Nat)) (k : Nat) : Nat := bif (l.map (·.1)).contains k then rn l k else k + 1 + (l.map (·.2)).sum
theorem rn_mem : ∀ {l : List (Nat × Nat)} {k : Nat}, k ∈ l.map (·.1) → (k, rn l k) ∈ l
  | [], k, h => by simp at h
  | (a, b) :: r, k, h => by
    unfold rn
    cases hb : Nat.beq k a with
    | true => have := Nat.eq_of_beq_eq_true hb; subst this; simp
    | false =>
      have hne : k ≠ a := fun e => by rw [e, Nat.beq_refl] at hb; cases hb
      simp only [List.map_cons, List.mem_cons] at h
      exact List.mem_cons_of_mem _ (rn_mem (h.resolve_left hne))
theorem sum_ge {l : List Nat} {x : Nat} (h : x ∈ l) : x ≤ l.sum := by
  induction l with
  | nil => simp at h
  | cons a r ih =>
    simp only [List.sum_cons]
    rcases List.mem_cons.1 h with rfl | h
    · omega
    · have := ih h; omega
theorem rnT_inj {l : List (Nat × Nat)} (hn : ∀ p ∈ l, ∀ q ∈ l, p.2 = q.2 → p.1 = q.1) : ∀ i j, rnT l i = rnT l j → i = j := by
  intro i j h
  unfold rnT at h
  cases hi : (l.map (·.1)).contains i <;> cases hj : (l.map (·.1)).contains j <;> rw [hi, hj] at h <;> simp only [cond_true, cond_false] at h
  · omega
  · have h2 := rn_mem (l := l) (k := j) (by simpa using hj)
    have := sum_ge (List.mem_map.2 ⟨_, h2, rfl⟩ : rn l j ∈ l.map (·.2))
    omega
  · have h1 := rn_mem (l := l) (k := i) (by simpa using hi)
    have := sum_ge (List.mem_map.2 ⟨_, h1, rfl⟩ : rn l i ∈ l.map (·.2))
    omega
  · exact hn _ (rn_mem (l := l) (k := i) (by simpa using hi)) _ (rn_mem (l := l) (k := j) (by simpa using hj)) h
end Go.AM
