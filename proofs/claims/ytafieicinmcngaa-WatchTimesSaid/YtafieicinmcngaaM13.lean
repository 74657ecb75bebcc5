/- The abstract machine, part 13: variables are made and written, slices grow. It speaks of whatever program. -/
import Derived.Test.YtafieicinmcngaaM20
namespace Go.AM
open Go Go.RowKit
set_option linter.unusedVariables false
set_option linter.unusedSimpArgs false

def CV.one : CV → Bool
  | .v u => u.oneCell'
  | .agg _ => false
  | _ => true

/-- What an operation makes of contents, wherever they lie. -/
def RunOp (E : Env) (op : Op) (xs : List (Operand × CV)) (r : CV) : Prop :=
  ∀ (w : World) (L : Nat → Prop) (eval : Operand → Value) (o : Oper), (∀ b, L b → b < w.heap.size) → o.op = op → (∀ p ∈ xs, Rep w L (eval p.1) p.2) →
    ∃ u w', (execOp eval o).run E.P w = .ok (.value u) w' ∧ Keep (fun _ => False) w w' ∧ Rep w' L u r

/-- A step of an operation: the value it leaves, what it turns in memory, which objects it looks at, which it makes. -/
inductive StepR (E : Env) (m : Nat → Option Ob) (ev : Operand → AV) : Option Tmp → Op → AV → List (Nat × Option Ob) → List Nat → List Nat → Prop where
  | val {dst : Option Tmp} {op : Op} {v : AV} {R : List Nat} (h : StepV E m ev op v R) : StepR E m ev dst op v [] R []
  | box {d : Tmp} {t : TypeId} {x : Operand} {ys : List AV} {R : List Nat} (hc : Cells m (ev x) ys R) : StepR E m ev (some d) (.box t x) (.loc d 0) [(d, some (.box ys))] R [d]
  | alloc {d : Tmp} {t : TypeId} {td : TD} (ht : E.Ty t = some td) : StepR E m ev (some d) (.alloc t) (.loc d 0) [(d, some (.box (td.zero.map fun z => .c (.v z))))] [] [d]
  | storeL {t : TypeId} {x y : Operand} {i off : Nat} {cells ys : List AV} {d : TD} {R R' : List Nat} (hx : ev x = .loc i off) (hm : m i = some (.box cells)) (ht : E.Ty t = some d)
      (hy : Cells m (ev y) ys R) (h1 : AllOne m ys R') (hl : ys.length = d.sz) (hb : off + d.sz ≤ cells.length) :
      StepR E m ev none (.store t x y) .any [(i, some (.box (setMany cells off ys)))] (i :: (R ++ R')) []
  | appM {d : Tmp} {t : TypeId} {x y : Operand} {i n sz e : Nat} {xs ys : List CV} {td de : TD} (hx : ev x = .ms i n) (hm : m i = some (.arr sz e xs)) (hn : xs.length = n) (hy : ev y = .c (.sl sz ys))
      (ht : E.Ty t = some td) (hd : td.desc = .slice e) (he : E.Ty e = some de) (hs : de.sz = sz) (hb : (n + ys.length) * de.bytes ≤ 140737488355328) (hb0 : 0 < de.bytes) (h1 : ∀ y ∈ ys, ∀ c ∈ y.cells, c.one = true)
      (h0 : 0 < ys.length) :
      StepR E m ev (some d) (.call { callee := .builtin .append, args := #[x, y], argTypes := #[t, t] }) (.ms d (n + ys.length)) [(i, none), (d, some (.arr sz e (xs ++ ys)))] [i] (bif Nat.beq i d then [] else [d])
  | appN {d : Tmp} {t : TypeId} {x y : Operand} {sz e : Nat} {ys : List CV} {td de : TD} (hx : ev x = .c (.v (.slice none 0 0))) (hy : ev y = .c (.sl sz ys))
      (ht : E.Ty t = some td) (hd : td.desc = .slice e) (he : E.Ty e = some de) (hs : de.sz = sz) (h0 : 0 < sz) (hb : ys.length * de.bytes ≤ 140737488355328) (hb0 : 0 < de.bytes) (h1 : ∀ y ∈ ys, ∀ c ∈ y.cells, c.one = true) :
      StepR E m ev (some d) (.call { callee := .builtin .append, args := #[x, y], argTypes := #[t, t] }) (.ms d ys.length) [(d, some (.arr sz e ys))] [] [d]
  | mkM {d : Tmp} {t : TypeId} {x y : Operand} {e : Nat} {k k' : IntKind} {n c : Nat} {td de : TD} {z : Value} (hx : ev x = .c (.v (.int k n))) (hy : ev y = .c (.v (.int k' c))) (hnc : n ≤ c) (ht : E.Ty t = some td) (hd : td.desc = .slice e) (he : E.Ty e = some de)
      (hz : de.zero = [z]) (hs : de.sz = 1) (hb : c * de.bytes ≤ 140737488355328) (hc : c ≤ 140737488355328) :
      StepR E m ev (some d) (.makeSlice t x y) (.ms d n) [(d, some (.arr 1 e (List.replicate n (.v z))))] [] [d]
  | storeE {t : TypeId} {x y : Operand} {i n sz k off e : Nat} {xs zs : List CV} {x0 x1 : CV} {ys : List AV} {d : TD} {R : List Nat} (hx : ev x = .el i n sz k off) (hm : m i = some (.arr sz e xs)) (hn : xs.length = n) (hk : xs[k]? = some x0) (ht : E.Ty t = some d)
      (hy : Cells m (ev y) ys R) (hz : ToCs ys zs) (h1 : zs.all CV.one = true) (hl : zs.length = d.sz) (hb : off + d.sz ≤ x0.cells.length) (he : x1.cells = x0.cells.take off ++ zs ++ x0.cells.drop (off + zs.length)) :
      StepR E m ev none (.store t x y) .any [(i, some (.arr sz e (xs.set k x1)))] (i :: R) []
  | callO {dst : Option Tmp} {callee : Operand} {args : Array Operand} {ats : Array TypeId} {f : FuncId} {us : List Value} {xs rs : List AV} {oa ob : List (Nat × Ob)}
      (hc : ev callee = .c (.v (.func (.func f) #[] ⟨us⟩))) (hx : ToAs (args.toList.map ev ++ us.map fun u => .c (.v u)) xs) (hm : ∀ p ∈ oa, m p.1 = some p.2) (hnb : (ob.map (·.1)).Nodup)
      (hlt : ∀ d ∈ newIds oa ob, d < 1000000) (hp : Own E.P f xs oa rs ob) :
      StepR E m ev dst (.call { callee := .value callee, args := args, argTypes := ats }) (resA rs) (ownW oa ob) (oa.map (·.1)) (newIds oa ob)
  | run {dst : Option Tmp} {op : Op} {r : CV} (xs : List (Operand × CV)) (hx : ∀ p ∈ xs, ev p.1 = .c p.2 ∧ p.1 ∈ op.operands.toList) (h : RunOp E op xs r) : StepR E m ev dst op (.c r) [] [] []
  | nilL {dst : Option Tmp} {x : Operand} {i off : Nat} {cells : List AV} (hx : ev x = .loc i off) (hm : m i = some (.box cells)) : StepR E m ev dst (.nilCheck x) (.loc i off) [] [i] []
  | nilE {dst : Option Tmp} {x : Operand} {i n sz k off sz' e : Nat} {xs : List CV} (hx : ev x = .el i n sz k off) (hm : m i = some (.arr sz' e xs)) (hn : xs.length = n) : StepR E m ev dst (.nilCheck x) (.el i n sz k off) [] [i] []
  | idxL {dst : Option Tmp} {t : TypeId} {x ix : Operand} {i off len e : Nat} {cells : List AV} {k : IntKind} {n : Int} {d de : TD} (hx : ev x = .loc i off) (hm : m i = some (.box cells)) (hi : ev ix = .c (.v (.int k n))) (h0 : 0 ≤ n) (hlt : n < len)
      (ht : E.Ty t = some d) (hd : d.desc = .array len e) (he : E.Ty e = some de) : StepR E m ev dst (.indexAddr t x ix) (.loc i (off + n.toNat * de.sz)) [] [i] []
  | eqNL {dst : Option Tmp} {op : BinOp} {t u : TypeId} {x y : Operand} {i off e : Nat} {cells : List AV} {d : TD} (hop : op = .eql ∨ op = .neq) (hx : ev x = .loc i off) (hm : m i = some (.box cells)) (hy : ev y = .c (.v (.pointer none)))
      (ht : E.Ty t = some d) (hd : d.desc = .pointer e) : StepR E m ev dst (.binOp op t x y u) (.c (.v (.bool (op == .neq)))) [] [i] []

section
variable {E : Env} {C : Ctx} {s : AS} {ρ : Nat → Value} {a : Act} {w : World} {K : Act → World → Prop} {Q : Exit → Act → World → Prop}

theorem run_equalIn_nil (d : Nat) {t e : TypeId} (p : Addr) (hu : E.P.underlying t = some (.pointer e)) : (Op.equalIn (d + 1) t (.pointer (some p)) (.pointer none)).run E.P w = .ok false w := by
  unfold Op.equalIn
  simp only [Sem.run_bind, run_underlying hu, Result.andThen_ok]
  rfl
theorem run_eqNil {t e : TypeId} (p : Addr) {op : BinOp} (hop : op = .eql ∨ op = .neq) (hu : E.P.underlying t = some (.pointer e)) : (binOp op t (.pointer (some p)) (.pointer none)).run E.P w = .ok (.bool (op == .neq)) w := by
  rcases hop with rfl | rfl
  · have e1 : binOp .eql t (.pointer (some p)) (.pointer none) = (do pure (.bool (← Op.equal t (.pointer (some p)) (.pointer none)))) := rfl
    rw [e1]
    simp only [Sem.run_bind, Op.equal, Op.maxDepth]
    rw [run_equalIn_nil 9999 p hu]; rfl
  · have e1 : binOp .neq t (.pointer (some p)) (.pointer none) = (do pure (.bool (!(← Op.equal t (.pointer (some p)) (.pointer none))))) := rfl
    rw [e1]
    simp only [Sem.run_bind, Op.equal, Op.maxDepth]
    rw [run_equalIn_nil 9999 p hu]; rfl
theorem guard_nil (op : BinOp) (t : TypeId) (x y : Operand) (p : Addr) : (eqGuard op t x y (.pointer (some p)) (.pointer none)).run E.P w = .ok () w := by
  unfold eqGuard; cases op <;> rfl

theorem setCells_block (w : World) (b : Nat) : ∀ (vs : List Value) (i : Nat) (cur : Array Value) (ty : TypeId), w.heap[b]? = some (.cells cur ty (0, 0)) → i + vs.length ≤ cur.size →
    (w.setCells b i vs).heap[b]? = some (.cells ⟨cur.toList.take i ++ vs ++ cur.toList.drop (i + vs.length)⟩ ty (0, 0)) ∧ Keep (fun x => x = b) w (w.setCells b i vs) := by
  intro vs
  induction vs generalizing w with
  | nil =>
    intro i cur ty h hl
    refine ⟨?_, Keep.refl _ _⟩
    show w.heap[b]? = _
    rw [h]; congr 2; apply Array.ext'; simp
  | cons v vs ih =>
    intro i cur ty h hl
    have hs : (w.setCell ⟨b, i, none⟩ v).heap[b]? = some (.cells (cur.setIfInBounds i v) ty (0, 0)) := by
      simp [World.setCell, Array.getElem?_modify, h]
    obtain ⟨h1, h2⟩ := ih (w.setCell ⟨b, i, none⟩ v) (i + 1) (cur.setIfInBounds i v) ty hs (by simp at hl ⊢; omega)
    refine ⟨?_, (Keep.setCell (T := fun x => x = b) w ⟨b, i, none⟩ v rfl).trans h2 fun _ _ h => h⟩
    show ((w.setCell ⟨b, i, none⟩ v).setCells b (i + 1) vs).heap[b]? = _
    rw [h1]
    congr 2
    apply Array.ext'
    simp only [Array.toList_setIfInBounds, List.length_cons] at hl ⊢
    have e1 : (cur.toList.set i v).take (i + 1) = cur.toList.take i ++ [v] := by
      rw [List.take_add_one]
      simp [List.take_set, show i < cur.size by omega]
      rw [List.set_eq_of_length_le (by simp; omega)]
    rw [e1, List.drop_set_of_lt (by omega)]
    simp; congr 1; omega

theorem run_storeAt' {t : Nat} {d : TD} (ht : E.Ty t = some d) (w : World) (b o : Nat) (v : Value) (hv : v.cells.size = d.sz) (cur : Array Value) (ty : TypeId) (hh : w.heap[b]? = some (.cells cur ty (0, 0)))
    (hl : o + d.sz ≤ cur.size) (h1 : ∀ u ∈ v.cells.toList, u.oneCell' = true) : (Instr.storeAt t (.pointer (some ⟨b, o, none⟩)) v).run E.P w = .ok () (w.setCells b o v.cells.toList) := by
  have hst := run_storeCells_cells (P := E.P) b o v.cells.toList 0 w (fun j hj => by
      rw [cell_of_row w b (o + 0 + j) cur ty (0, 0) hh]
      have : o + 0 + j < cur.size := by simp at hj; omega
      simp; omega) (fun j hj => by simp [World.frozen?, hh]) h1
  simp only [Nat.add_zero] at hst
  simp [Instr.storeAt, Instr.sureAddr, storeVar, Env.size ht, hv, hst]

theorem CV.one_sound {L : Nat → Prop} {v : Value} {x : CV} (h : Rep w L v x) (ho : x.one = true) : v.oneCell' = true := by
  cases h <;> first | exact ho | rfl | cases ho

/-- What an append hands over: the cells of the slice. -/
theorem news_of (h : STr C s ρ a w) {sz : Nat} {ys : List CV} {b o : Nat} (hsz : 0 < sz) (hlen : ∀ (i : Nat) (x : CV), ys[i]? = some x → x.cells.length = sz) {L : Nat → Prop}
    (hc : ∀ (i : Nat) (x : CV), ys[i]? = some x → ∀ (j : Nat) (y : CV), x.cells[j]? = some y → ∃ u, w.cell? ⟨b, o + (i * sz + j), none⟩ = some u ∧ Rep w L u y) (h1 : ∀ y ∈ ys, ∀ c ∈ y.cells, c.one = true) :
    ∃ news : List Value, news.length = ys.length * sz ∧ (∀ j u, news[j]? = some u → w.cell? ((⟨b, o, none⟩ : Addr).add j) = some u) ∧ (∀ u ∈ news, u.oneCell' = true) ∧
      ∀ (i : Nat) (x : CV), ys[i]? = some x → ∀ (j : Nat) (y : CV), x.cells[j]? = some y → Rep w L (news.getD (i * sz + j) undef) y := by
  have key : ∀ q, q < ys.length * sz → ∃ u, w.cell? ⟨b, o + q, none⟩ = some u ∧ u.oneCell' = true := by
    intro q hq
    have hd : q / sz < ys.length := by rw [Nat.div_lt_iff_lt_mul hsz]; exact hq
    have hm : q % sz < sz := Nat.mod_lt _ hsz
    have hx := List.getElem?_eq_getElem hd
    have hj : q % sz < (ys[q / sz]).cells.length := by rw [hlen _ _ hx]; exact hm
    obtain ⟨u, hu, hr⟩ := hc _ _ hx _ _ (List.getElem?_eq_getElem hj)
    refine ⟨u, by rw [← hu]; congr 2; rw [Nat.mul_comm]; rw [Nat.div_add_mod], CV.one_sound hr (h1 _ (List.getElem_mem hd) _ (List.getElem_mem hj))⟩
  refine ⟨(List.range (ys.length * sz)).map fun q => (w.cell? ⟨b, o + q, none⟩).getD undef, by simp, fun j u hu => ?_, fun u hu => ?_, fun i x hx j y hy => ?_⟩
  · simp only [List.getElem?_map] at hu
    obtain ⟨q, hq, rfl⟩ := Option.map_eq_some_iff.1 hu
    obtain ⟨hlt, he⟩ := List.getElem?_eq_some_iff.1 hq
    simp at hlt he; subst he
    obtain ⟨u, hu, _⟩ := key j hlt
    rw [add_lit', hu]; rfl
  · obtain ⟨q, hq, rfl⟩ := List.mem_map.1 hu
    obtain ⟨u, hu, h1⟩ := key q (List.mem_range.1 hq)
    rw [hu]; exact h1
  · have hjs : j < sz := by rw [← hlen i x hx]; exact (List.getElem?_eq_some_iff.1 hy).1
    have hil : i < ys.length := (List.getElem?_eq_some_iff.1 hx).1
    have hlt : i * sz + j < ys.length * sz := by
      calc i * sz + j < i * sz + sz := by omega
        _ = (i + 1) * sz := by rw [Nat.succ_mul]
        _ ≤ _ := Nat.mul_le_mul_right _ hil
    obtain ⟨u, hu, hr⟩ := hc i x hx j y hy
    have : ((List.range (ys.length * sz)).map fun q => (w.cell? ⟨b, o + q, none⟩).getD undef).getD (i * sz + j) undef = u := by
      simp [List.getD, hlt, hu]
    rw [this]; exact hr

theorem run_append_nilsrc (w : World) {t ty e : Nat} {td de : TD} (ht : E.Ty t = some td) (hd : td.desc = .slice e) (he : E.Ty e = some de) (base : Option Addr) (n cap c : Nat) (hn : n ≤ cap) :
    (Builtin.append_ #[t, t] ty #[.slice base n cap, .slice none 0 c]).run E.P w = .ok (.slice base n cap) w := by
  have hu := Env.und ht; rw [hd] at hu
  cases base <;> simp [Builtin.append_, run_underlying hu, Env.size he, Builtin.lenOf, Builtin.firstCells, hn, storeCells]

/-- The step's state. -/
def AS.app (s : AS) (dst : Option Tmp) (v : AV) (mw : List (Nat × Option Ob)) : AS := ⟨putT s.t dst v, updMs s.m mw⟩


theorem getL {l r : List Value} {k : Nat} : (l ++ r).getD k undef = if k < l.length then l.getD k undef else r.getD (k - l.length) undef := by
  simp only [List.getD, List.getElem?_append]; split <;> rfl

theorem elems_append {L' : Nat → Prop} {w' : World} {sz : Nat} {xs ys : List CV} {vs news : List Value} (hl : vs.length = xs.length * sz)
    (h1 : ∀ (i : Nat) (x : CV), xs[i]? = some x → x.cells.length = sz ∧ ∀ (j : Nat) (y : CV), x.cells[j]? = some y → Rep w' L' (vs.getD (i * sz + j) undef) y)
    (h2 : ∀ (i : Nat) (x : CV), ys[i]? = some x → x.cells.length = sz ∧ ∀ (j : Nat) (y : CV), x.cells[j]? = some y → Rep w' L' (news.getD (i * sz + j) undef) y) :
    ∀ (i : Nat) (x : CV), (xs ++ ys)[i]? = some x → x.cells.length = sz ∧ ∀ (j : Nat) (y : CV), x.cells[j]? = some y → Rep w' L' ((vs ++ news).getD (i * sz + j) undef) y := by
  intro i x hx
  rw [List.getElem?_append] at hx
  split at hx
  · rename_i hi
    obtain ⟨ha, hb⟩ := h1 i x hx
    refine ⟨ha, fun j y hy => ?_⟩
    have hj : j < sz := by rw [← ha]; exact (List.getElem?_eq_some_iff.1 hy).1
    have hlt : i * sz + j < vs.length := by
      rw [hl]
      calc i * sz + j < i * sz + sz := by omega
        _ = (i + 1) * sz := by rw [Nat.succ_mul]
        _ ≤ _ := Nat.mul_le_mul_right _ hi
    rw [getL, if_pos hlt]; exact hb j y hy
  · rename_i hi
    obtain ⟨ha, hb⟩ := h2 _ x hx
    refine ⟨ha, fun j y hy => ?_⟩
    have hge : xs.length * sz ≤ i * sz := Nat.mul_le_mul_right _ (by omega)
    rw [getL, if_neg (by omega)]
    have : i * sz + j - vs.length = (i - xs.length) * sz + j := by rw [hl, Nat.sub_mul]; omega
    rw [this]; exact hb j y hy

/-- ONE STEP, SOUND. -/
theorem StepR.wp (h : STr C s ρ a w) {dst : Option Tmp} {op : Op} {v : AV} {mw : List (Nat × Option Ob)} {R F : List Nat} (hs : StepR E s.m s.ev dst op v mw R F) {o : Oper} (ho : o.op = op) (hdst : o.dst = dst)
    (hd : ∀ d, dst = some d → d < C.n) (hF : ∀ d ∈ F, s.noId d)
    (hK : ∀ a' w', ST C (s.app dst v mw) a' w' → K a' w') : o.wp E.P a w K Q := by
  cases hs with
  | val hv =>
    refine hv.wp h ho fun u w' hk hu => hK _ _ ⟨ρ, ?_⟩
    rw [hdst]
    exact (h.world hk).put dst hd fun _ => hu
  | box hc =>
    rename_i d t x ys
    obtain ⟨hcs, hcr⟩ := Cells.sound h (h.evR x) hc
    have hn := hF d (by simp)
    have hnew := h.new d (Nat.lt_of_lt_of_le (hd d rfl) C.hn) t (a.eval x).cells ys hcs hn.1 hn.2 (fun y hy => by
      obtain ⟨j, hj⟩ := List.mem_iff_getElem?.1 hy
      have := hn.1
      have hx : NoId d (s.ev x) := by cases x <;> first | exact hn.1 _ | exact .c _ | exact .any
      generalize s.ev x = q at hc hx
      cases hc with
      | agg xs => cases hx with | agg hx => exact hx j y hj
      | cagg cs => obtain ⟨z, _, rfl⟩ := List.mem_map.1 hy; exact .c z
      | one _ => simp at hy; subst hy; exact hx) hcr
    refine wp_val (u := .pointer (some ⟨w.heap.size, 0, none⟩)) (w' := w.alloc (.cells (a.eval x).cells t)) (by simp [execOp, ho, Instr.box, newVar, newRow]) ?_
    rw [hdst]
    exact hK _ _ ⟨_, hnew.put (some d) hd fun _ => .loc fun cells _ => ⟨_, updV_same _ _ _, rfl⟩⟩
  | alloc ht =>
    rename_i d t td
    have hn := hF d (by simp)
    obtain ⟨z, hz, hzc⟩ := Env.zero ht w
    have hnew := h.new d (Nat.lt_of_lt_of_le (hd d rfl) C.hn) t z.cells (td.zero.map fun z => .c (.v z)) (by rw [← hzc]; simp) hn.1 hn.2 (fun y hy => by obtain ⟨q, _, rfl⟩ := List.mem_map.1 hy; exact .c _) (fun j y hy => by
      simp only [List.getElem?_map] at hy
      obtain ⟨q, hq, rfl⟩ := Option.map_eq_some_iff.1 hy
      rw [← hzc] at hq
      have : z.cells.getD j undef = q := by simp [Array.getD_eq_getD_getElem?] at hq ⊢; rw [hq]; rfl
      rw [this]; exact .c (.v q))
    refine wp_val (u := .pointer (some ⟨w.heap.size, 0, none⟩)) (w' := w.alloc (.cells z.cells t)) (by simp [execOp, ho, Instr.alloc, hz, newVar, newRow]) ?_
    rw [hdst]
    exact hK _ _ ⟨_, hnew.put (some d) hd fun _ => .loc fun cells _ => ⟨_, updV_same _ _ _, rfl⟩⟩
  | storeL hx hm ht hy h1 hl hb =>
    rename_i t x y i off cells ys d R1 R2
    have hxv := h.evR x; rw [hx] at hxv
    obtain ⟨b, hρ, hxv⟩ := hxv.loc_inv _ hm
    obtain ⟨b', cs, ty, hu, hheap, hcs, hcc⟩ := h.obj i _ hm
    rw [hρ] at hu; cases hu
    obtain ⟨hys, hyr⟩ := Cells.sound h (h.evR y) hy
    have hone := AllOne.sound h h1 (vs := (a.eval y).cells.toList) (by simpa using hys) (fun j q hq => by simpa [Array.getD_eq_getD_getElem?, List.getD] using hyr j q hq)
    have hrun := run_storeAt' ht w b off (a.eval y) (by omega) cs ty hheap (by omega) hone
    obtain ⟨hblk, hkeep⟩ := setCells_block w b (a.eval y).cells.toList off cs ty hheap (by simp; omega)
    have hwr := h.write i (.box cells) (.box (setMany cells off ys)) hm (b := b) (by rw [hρ]; rfl) hkeep (.inl ⟨_, _, rfl, rfl⟩) (fun hmv hmc => by
      refine ⟨b, _, ty, hρ, hblk, ?_, fun j q hq => ?_⟩
      · have := hcs; simp [setMany]; omega
      · have e : ∀ l : List Value, (⟨l⟩ : Array Value).getD j undef = l.getD j undef := fun l => by simp [Array.getD_eq_getD_getElem?, List.getD]
        rw [e]
        refine hmv _ _ ?_
        unfold setMany at hq
        simp only [List.getD, List.getElem?_append, List.length_append, List.length_take, Array.length_toList] at hq ⊢
        rw [show min off cs.size = off by omega]
        rw [show min off cells.length = off by omega] at hq
        by_cases hj : j < off
        · rw [if_pos (by omega), if_pos hj] at hq ⊢
          rw [List.getElem?_take, if_pos hj] at hq ⊢
          simpa [Array.getD_eq_getD_getElem?] using hcc j q hq
        · by_cases hj2 : j < off + ys.length
          · rw [if_pos (by omega), if_neg hj] at hq ⊢
            simpa [Array.getD_eq_getD_getElem?] using hyr (j - off) q hq
          · rw [if_neg (by omega)] at hq ⊢
            rw [List.getElem?_drop] at hq ⊢
            have := hcc j q (by rw [← hq]; congr 1; omega)
            rw [show off + (a.eval y).cells.size + (j - (off + (a.eval y).cells.size)) = j by omega]
            simpa [Array.getD_eq_getD_getElem?] using this)
    have hru : (execOp a.eval o).run E.P w = .ok .skip (w.setCells b off (a.eval y).cells.toList) := by
      simp only [execOp, ho, hxv, Sem.run_bind, hrun, Result.andThen_ok, Sem.run_pure]
    unfold Oper.wp
    rw [hru]
    show K (a.put o.dst undef) _
    rw [hdst]
    exact hK _ _ ⟨ρ, hwr.put none hd fun hne => absurd rfl hne⟩
  | appM hx hm hn hy ht hd' he hs hb hb0 h1 h0 =>
    rename_i d t x y i n sz e xs ys td de
    have hxv := h.evR x; rw [hx] at hxv
    have hxv := (hxv.ms_inv _ _ _ hm).2 hn
    have hyv := h.evR y; rw [hy] at hyv
    obtain ⟨ya, ycap, hyv, _, _, hsz, hyc, hyl⟩ := hyv.c_inv.sl_inv
    obtain ⟨b, of, rfl, hyb, hyc⟩ := hyc h0
    obtain ⟨_, vs, hown, hvs⟩ := h.obj i _ hm
    obtain ⟨news, hnl, hnc, hn1, hnr⟩ := news_of h hsz hyl hyc h1
    have hu := Env.und ht; rw [hd'] at hu
    obtain ⟨hue, ti, hti, his, hib, z, hz, hzc⟩ := E.ok e de he
    have hbytes : (xs.length + ys.length) * ti.bytes ≤ 140737488355328 := by rw [hib, hn]; exact hb
    have hlen : xs.length + ys.length ≤ maxLen := by
      have : (n + ys.length) * 1 ≤ (n + ys.length) * de.bytes := Nat.mul_le_mul_left _ hb0
      simp only [maxLen]; omega
    have hzs : z.cells.size = sz := by
      have hl : z.cells.size = de.zero.length := by rw [← hzc]; simp
      rw [hl, E.zl e de he, hs]
    obtain ⟨v', w', hrun, hown', hg, _, hat⟩ := run_append_own_at (P := E.P) w 0 t o.type e ti z sz ti.bytes hu hti hz (by omega) rfl hzs hsz (ρ i) xs.length vs hown ⟨b, of, none⟩ ys.length ycap news hnl hnc hn1 hlen hbytes (Nat.zero_le _)
    have hgrow := h.grow (some i) d sz e (Nat.lt_of_lt_of_le (hd d rfl) C.hn) (xs ++ ys) (ρ i) v' (vs ++ news) hsz ⟨xs, hm, rfl, fun _ => by simp; omega⟩ (fun hne => hF d (by
        have : Nat.beq i d = false := by
          cases hb : Nat.beq i d with
          | false => rfl
          | true => exact absurd (by rw [Nat.eq_of_beq_eq_true hb]) hne
        rw [this]; simp)) (by rw [List.length_append]; exact hown') hg (by
          rcases hat with h | h
          · exact .inl h
          · exact .inr (.inr h)) (fun L' hL' => elems_append hown.1
            (fun k q hq => ⟨(hvs k q hq).1, fun j y hj => ((hvs k q hq).2 j y hj).keep hL' (fun b' hb' hlt => hg.block b' hlt fun e' => hb' (.inr ⟨i, _, hm, by rw [blk_own hown]; exact e'.symm⟩))⟩)
            (fun k q hq => ⟨hyl k q hq, fun j y hj => (hnr k q hq j y hj).keep hL' (fun b' hb' hlt => hg.block b' hlt fun e' => hb' (.inr ⟨i, _, hm, by rw [blk_own hown]; exact e'.symm⟩))⟩))
    refine wp_val (u := v') (w' := w') ?_ ?_
    · simp only [execOp, ho, resolve, invoke, builtin, Sem.run_bind, Sem.run_pure, Result.andThen_ok, List.map_toArray, List.map_cons, List.map_nil, hxv, hyv, hrun]
    · rw [hdst]
      refine hK _ _ ⟨_, hgrow.put (some d) hd fun _ => .ms fun sz' e' xs' hm' => ?_⟩
      simp only [updM_same] at hm'; cases hm'
      exact ⟨by simp; omega, fun _ => (updV_same _ _ _).symm⟩
  | appN hx hy ht hd' he hs h0 hb hb0 h1 =>
    rename_i d t x y sz e ys td de
    have hxv := ev_int h hx
    have hyv := h.evR y; rw [hy] at hyv
    obtain ⟨ya, ycap, hyv, hyc1, _, hsz, hyc, hyl⟩ := hyv.c_inv.sl_inv
    have hu := Env.und ht; rw [hd'] at hu
    obtain ⟨hue, ti, hti, his, hib, z, hz, hzc⟩ := E.ok e de he
    have hzs : z.cells.size = sz := by
      have hl : z.cells.size = de.zero.length := by rw [← hzc]; simp
      rw [hl, E.zl e de he, hs]
    have hn := hF d (by simp)
    have fin : ∀ (v' : Value) (w' : World) (vs' : List Value), (Builtin.append_ #[t, t] o.type #[.slice none 0 0, a.eval y]).run E.P w = .ok v' w' → w'.ownsRow 0 e sz v' ys.length vs' → w.grownBy w' none →
        (v'.ownBlock = none ∨ v'.ownBlock = some w.heap.size) →
        (∀ L', (∀ b, ¬ LL C s.m ρ b → b < w.heap.size → ¬ L' b) → ∀ (i : Nat) (x : CV), ys[i]? = some x → x.cells.length = sz ∧ ∀ (j : Nat) (y : CV), x.cells[j]? = some y → Rep w' L' (vs'.getD (i * sz + j) undef) y) → o.wp E.P a w K Q := by
      intro v' w' vs' hrun hown' hg hat hx'
      have hgrow := h.grow none d sz e (Nat.lt_of_lt_of_le (hd d rfl) C.hn) ys (.slice none 0 0) v' vs' hsz rfl (fun _ => hn) hown' hg (by
        rcases hat with h | h
        · exact .inr (.inl h)
        · exact .inr (.inr h)) hx'
      refine wp_val (u := v') (w' := w') ?_ ?_
      · simp only [execOp, ho, resolve, invoke, builtin, Sem.run_bind, Sem.run_pure, Result.andThen_ok, List.map_toArray, List.map_cons, List.map_nil, hxv, hrun]
      · rw [hdst]
        refine hK _ _ ⟨_, hgrow.put (some d) hd fun _ => .ms fun sz' e' xs' hm' => ?_⟩
        simp only [updM_same] at hm'; cases hm'
        exact ⟨Nat.le_refl _, fun _ => (updV_same _ _ _).symm⟩
    rcases Nat.eq_zero_or_pos ys.length with h00 | h00
    · have hys : ys = [] := List.eq_nil_of_length_eq_zero h00
      subst hys
      have hb2 : w.ownsRow 0 e sz (.slice none 0 0) 0 [] := World.ownsRow_nil w 0 e sz
      cases ya with
      | none =>
        refine fin (.slice none 0 0) w [] (by rw [hyv]; exact run_append_nilsrc w ht hd' he none 0 0 ycap (Nat.le_refl _)) hb2 ⟨rfl, rfl, rfl, Nat.le_refl _, fun _ _ _ => rfl⟩ (.inl rfl) (fun L' _ i x hx => by simp at hx)
      | some ad =>
        obtain ⟨v', w', hrun, hown', hg, hnil, hat⟩ := run_append_own_at (P := E.P) w 0 t o.type e ti z sz ti.bytes hu hti hz (by omega) rfl hzs hsz (.slice none 0 0) 0 [] hb2 ad 0 ycap [] (by simp) (fun j u hu => by simp at hu) (fun u hu => by simp at hu) (by simp [maxLen]) (by simp) (Nat.zero_le _)
        have hv' := hnil.2 ⟨rfl, rfl⟩
        subst hv'
        refine fin (.slice none 0 0) w' [] (by rw [hyv]; exact hrun) (World.ownsRow_nil w' 0 e sz) hg (.inl rfl) (fun L' _ i x hx => by simp at hx)
    · obtain ⟨b, of, rfl, hyb, hyc⟩ := hyc h00
      obtain ⟨news, hnl, hnc, hn1, hnr⟩ := news_of h hsz hyl hyc h1
      have hlen : 0 + ys.length ≤ maxLen := by
        have : ys.length * 1 ≤ ys.length * de.bytes := Nat.mul_le_mul_left _ hb0
        simp only [maxLen]; omega
      obtain ⟨v', w', hrun, hown', hg, _, hat⟩ := run_append_own_at (P := E.P) w 0 t o.type e ti z sz ti.bytes hu hti hz (by omega) rfl hzs hsz (.slice none 0 0) 0 [] (World.ownsRow_nil w 0 e sz) ⟨b, of, none⟩ ys.length ycap news hnl hnc hn1 hlen (by rw [hib]; simpa using hb) (Nat.zero_le _)
      simp only [Nat.zero_add, List.nil_append] at hown'
      refine fin v' w' news (by rw [hyv]; exact hrun) hown' hg hat (fun L' hL' k q hq => ⟨hyl k q hq, fun j y hj => (hnr k q hq j y hj).keep hL' (fun b' hb' hlt => hg.block b' hlt (by simp [Value.ownBlock]))⟩)
  | mkM hx hy hnc ht hd' he hz hs hb hc =>
    rename_i d t x y e k k' n c td de z
    have hn := hF d (by simp)
    have hu := Env.und ht; rw [hd'] at hu
    obtain ⟨hue, i, hi, his, hib, z', hz', hzc⟩ := E.ok e de he
    have hz1 : z'.cells = #[z] := by apply Array.ext'; rw [hzc, hz]
    have hbb : (i.bytes : Int) * (c : Int) ≤ 281474976710656 := by
      rw [hib]
      have hcc : ((de.bytes * c : Nat) : Int) = (de.bytes : Int) * (c : Int) := by simp
      rw [← hcc, Nat.mul_comm]; omega
    have hrun := run_make (P := E.P) w t e i z' hu hi hz' k k' n c (by omega) (by omega) hbb (by omega)
    rw [his, hs, hz1] at hrun
    simp only [Int.toNat_natCast, Nat.mul_one] at hrun
    have hown : (w.alloc (.cells (madeCells #[z] c) e)).ownsRow 0 e 1 (.slice (some ⟨w.heap.size, 0, none⟩) n c) (List.replicate n (CV.v z)).length (List.replicate n z) := by
      refine ⟨by simp, .inr ⟨w.heap.size, c, madeCells #[z] c, by simp, Nat.zero_le _, heap_alloc_new w _, by simpa using hnc, by simp only [maxLen]; omega, by simp [madeCells], ?_⟩⟩
      apply List.ext_getElem
      · simp [madeCells]; omega
      · intro q h1 h2
        simp [madeCells, Nat.mod_one]
    have hgrow := h.grow none d 1 e (Nat.lt_of_lt_of_le (hd d rfl) C.hn) (List.replicate n (CV.v z)) (.slice none 0 0) (.slice (some ⟨w.heap.size, 0, none⟩) n c) (List.replicate n z) (w' := w.alloc (.cells (madeCells #[z] c) e)) (by omega) rfl (fun _ => hn) hown
      ⟨rfl, rfl, rfl, by simp, fun b hb _ => Below.heap_alloc w _ b hb⟩ (.inr (.inr rfl)) (fun L' _ q x hq => by
        obtain ⟨hql, hqe⟩ := List.getElem?_eq_some_iff.1 hq
        simp at hqe hql; subst hqe
        refine ⟨rfl, fun j y hy => ?_⟩
        have hj0 : j = 0 := by have := (List.getElem?_eq_some_iff.1 hy).1; simp [CV.cells] at this; omega
        subst hj0
        simp [CV.cells] at hy; subst hy
        rw [show (List.replicate n z).getD (q * 1 + 0) undef = z by simp [List.getD, hql]]
        exact .v z)
    refine wp_val (u := .slice (some ⟨w.heap.size, 0, none⟩) n c) (w' := w.alloc (.cells (madeCells #[z] c) e)) (by simp [execOp, ho, ev_int h hx, ev_int h hy, hrun]) ?_
    rw [hdst]
    refine hK _ _ ⟨_, hgrow.put (some d) hd fun _ => .ms fun sz' e' xs' hm' => ?_⟩
    simp only [updM_same] at hm'; cases hm'
    exact ⟨by simp, fun _ => (updV_same _ _ _).symm⟩
  | storeE hx hm hn hk ht hy hz h1 hl hb he =>
    rename_i t x y i n sz k off e xs zs x0 x1 ys d R1
    have hxv := h.evR x; rw [hx] at hxv
    obtain ⟨_, b, cap, hρ, hxv⟩ := (hxv.el_inv _ _ _ hm).2 hn
    obtain ⟨h0, vs, hown, hvs⟩ := h.obj i _ hm
    obtain ⟨hx0, _⟩ := hvs k x0 hk
    have hkl : k < xs.length := (List.getElem?_eq_some_iff.1 hk).1
    have hks : k * sz + sz ≤ xs.length * sz := by
      calc k * sz + sz = (k + 1) * sz := by rw [Nat.succ_mul]
        _ ≤ xs.length * sz := Nat.mul_le_mul_right _ (by omega)
    obtain ⟨hys, hyr⟩ := Cells.sound h (h.evR y) hy
    rcases hown.2 with ⟨hu, he0⟩ | ⟨g, cap', cur, hu, hbg, hgg, hnc, hcm, hcs, htake⟩
    · omega
    rw [hρ] at hu
    simp only [Value.slice.injEq, Option.some.injEq, Addr.mk.injEq, and_true] at hu
    obtain ⟨rfl, hnx, rfl⟩ := hu
    have hcl : xs.length * sz ≤ cur.size := by rw [hcs]; exact Nat.mul_le_mul_right _ hnc
    have hzl : ys.length = zs.length := hz.1
    have hrz : ∀ (j : Nat) (c : CV), zs[j]? = some c → Rep w (LL C s.m ρ) ((a.eval y).cells.getD j undef) c := by
      intro j c hc
      have hj : j < ys.length := by rw [hzl]; exact (List.getElem?_eq_some_iff.1 hc).1
      exact (hz.2 j _ c (List.getElem?_eq_getElem hj) hc).rep _ (hyr j _ (List.getElem?_eq_getElem hj))
    have hone : ∀ u ∈ (a.eval y).cells.toList, u.oneCell' = true := by
      intro u hu
      obtain ⟨j, hj⟩ := List.mem_iff_getElem?.1 hu
      have hjl : j < zs.length := by rw [← hzl, ← hys]; simpa using (List.getElem?_eq_some_iff.1 hj).1
      have hr := hrz j _ (List.getElem?_eq_getElem hjl)
      have e1 : (a.eval y).cells.getD j undef = u := by simp [Array.getD_eq_getD_getElem?] at hj ⊢; rw [hj]; rfl
      rw [e1] at hr
      exact CV.one_sound hr (by rw [List.all_eq_true] at h1; exact h1 _ (List.getElem_mem hjl))
    have hszd : (a.eval y).cells.size = d.sz := by rw [hys, hzl, hl]
    have hrun := run_storeAt' ht w b (k * sz + off) (a.eval y) hszd cur e hgg (by omega) hone
    obtain ⟨hblk, hkeep⟩ := setCells_block w b (a.eval y).cells.toList (k * sz + off) cur e hgg (by simp; omega)
    have hlen : (a.eval y).cells.toList.length = zs.length := by simp; omega
    have hwr := h.write i (.arr sz e xs) (.arr sz e (xs.set k x1)) hm (b := b) (by rw [hρ]; rfl) hkeep (.inr ⟨_, _, _, _, _, rfl, rfl, by simp⟩) (fun hmv hmc => by
      refine ⟨h0, vs.take (k * sz + off) ++ (a.eval y).cells.toList ++ vs.drop (k * sz + off + zs.length), ⟨?_, .inr ⟨b, cap, _, by rw [hρ, List.length_set, hn], hbg, hblk, by simpa using hnc, hcm, ?_, ?_⟩⟩, ?_⟩
      · have := hown.1; simp; omega
      · simp; omega
      · rw [← htake]
        simp only [List.length_set]
        apply List.ext_getElem?
        intro q
        simp only [List.getElem?_append, List.getElem?_take, List.getElem?_drop, List.length_append, List.length_take, Array.length_toList]
        repeat' split
        all_goals first | rfl | omega | (congr 1; omega)
      · intro q c hq
        have hvl := hown.1
        by_cases hqk : q = k
        · subst hqk
          rw [List.getElem?_set_self hkl] at hq
          cases hq
          have hx1 : x1.cells.length = sz := by rw [he]; simp; omega
          refine ⟨hx1, fun j c hc => ?_⟩
          have hjs : j < sz := by rw [← hx1]; exact (List.getElem?_eq_some_iff.1 hc).1
          rw [he] at hc
          simp only [List.getElem?_append, List.getElem?_take, List.getElem?_drop, List.length_append, List.length_take] at hc
          rw [show min off x0.cells.length = off by omega] at hc
          simp only [List.getD, List.getElem?_append, List.getElem?_take, List.getElem?_drop, List.length_append, List.length_take, Array.length_toList]
          rw [show min (q * sz + off) vs.length = q * sz + off by omega]
          by_cases hj : j < off
          · rw [if_pos (by omega), if_pos (by omega), if_pos hj] at hc
            rw [if_pos (by omega), if_pos (by omega), if_pos (by omega)]
            have := (hvs q x0 hk).2 j c hc
            simp only [List.getD] at this
            exact hmc _ _ this
          · by_cases hj2 : j < off + zs.length
            · rw [if_pos (by omega), if_neg hj] at hc
              rw [if_pos (by omega), if_neg (by omega)]
              have := hrz (j - off) c hc
              rw [show q * sz + j - (q * sz + off) = j - off by omega]
              have e2 : (a.eval y).cells.toList[j - off]?.getD undef = (a.eval y).cells.getD (j - off) undef := by simp [Array.getD_eq_getD_getElem?]
              rw [e2]; exact hmc _ _ this
            · rw [if_neg (by omega)] at hc
              rw [if_neg (by omega)]
              have := (hvs q x0 hk).2 j c (by rw [← hc]; congr 1; omega)
              simp only [List.getD] at this
              rw [show q * sz + off + zs.length + (q * sz + j - (q * sz + off + (a.eval y).cells.size)) = q * sz + j by omega]
              exact hmc _ _ this
        · rw [List.getElem?_set_ne (by omega)] at hq
          obtain ⟨hc1, hc2⟩ := hvs q c hq
          refine ⟨hc1, fun j c' hc' => ?_⟩
          have hjs : j < sz := by rw [← hc1]; exact (List.getElem?_eq_some_iff.1 hc').1
          have hql : q < xs.length := (List.getElem?_eq_some_iff.1 hq).1
          have := hc2 j c' hc'
          simp only [List.getD] at this ⊢
          rw [show (vs.take (k * sz + off) ++ (a.eval y).cells.toList ++ vs.drop (k * sz + off + zs.length))[q * sz + j]? = vs[q * sz + j]? from ?_]
          · exact hmc _ _ this
          · simp only [List.getElem?_append, List.getElem?_take, List.getElem?_drop, List.length_append, List.length_take, Array.length_toList]
            rw [show min (k * sz + off) vs.length = k * sz + off by omega]
            by_cases hlt : q < k
            · have : q * sz + sz ≤ k * sz := by
                calc q * sz + sz = (q + 1) * sz := by rw [Nat.succ_mul]
                  _ ≤ k * sz := Nat.mul_le_mul_right _ (by omega)
              rw [if_pos (by omega), if_pos (by omega), if_pos (by omega)]
            · have : k * sz + sz ≤ q * sz := by
                calc k * sz + sz = (k + 1) * sz := by rw [Nat.succ_mul]
                  _ ≤ q * sz := Nat.mul_le_mul_right _ (by omega)
              rw [if_neg (by omega)]
              congr 1; omega)
    have hru : (execOp a.eval o).run E.P w = .ok .skip (w.setCells b (k * sz + off) (a.eval y).cells.toList) := by
      simp only [execOp, ho, hxv, Sem.run_bind, hrun, Result.andThen_ok, Sem.run_pure]
    unfold Oper.wp
    rw [hru]
    show K (a.put o.dst undef) _
    rw [hdst]
    exact hK _ _ ⟨ρ, hwr.put none hd fun hne => absurd rfl hne⟩
  | callO hc hx hm hnb hlt hp =>
    refine wp_own h hc hx hm hnb hlt hF hp ho fun u w' ρ' hst hu => ?_
    rw [hdst]
    exact hK _ _ ⟨ρ', hst.put dst hd fun _ => hu⟩
  | run xs hx hr =>
    obtain ⟨u, w', h1, h2, h3⟩ := hr w (LL C s.m ρ) a.eval o (fun b hb => h.live_lt hb) ho fun p hp => by
      have := h.evR p.1; rw [(hx p hp).1] at this; exact this.c_inv
    refine wp_val h1 ?_
    rw [hdst]
    exact hK _ _ ⟨ρ, (h.world h2).put dst hd fun _ => .c h3⟩
  | nilL hx hm =>
    rename_i x i off cells
    have hv := h.evR x; rw [hx] at hv
    obtain ⟨b, hρ, he⟩ := hv.loc_inv _ hm
    refine wp_val (u := a.eval x) (w' := w) (by simp [execOp, ho, he]) ?_
    rw [hdst]
    exact hK _ _ ⟨ρ, h.put dst hd fun _ => hv⟩
  | nilE hx hm hn =>
    rename_i x i n sz k off sz' e xs
    have hv := h.evR x; rw [hx] at hv
    obtain ⟨_, b, cap, hρ, he⟩ := (hv.el_inv _ _ _ hm).2 hn
    refine wp_val (u := a.eval x) (w' := w) (by simp [execOp, ho, he]) ?_
    rw [hdst]
    exact hK _ _ ⟨ρ, h.put dst hd fun _ => hv⟩
  | idxL hx hm hi h0 hlt ht hd' he =>
    rename_i t x ix i off len e cells k n d de
    have hv := h.evR x; rw [hx] at hv
    obtain ⟨b, hρ, hv⟩ := hv.loc_inv _ hm
    have hu := Env.und ht; rw [hd'] at hu
    refine wp_val (u := .pointer (some ⟨b, off + n.toNat * de.sz, none⟩)) (w' := w) ?_ ?_
    · simp [execOp, ho, hv, ev_int h hi, Instr.indexAt, run_underlying hu, Instr.sureAddr, asIntOf, h0, hlt, Env.size he, add_lit']
    · rw [hdst]
      exact hK _ _ ⟨ρ, h.put dst hd fun _ => .loc fun cells' hc => ⟨b, hρ, rfl⟩⟩
  | eqNL hop hx hm hy ht hd' =>
    rename_i op t u x y i off e cells d
    have hv := h.evR x; rw [hx] at hv
    obtain ⟨b, hρ, hv⟩ := hv.loc_inv _ hm
    have hu := Env.und ht; rw [hd'] at hu
    refine wp_val (u := .bool (op == .neq)) (w' := w) ?_ ?_
    · simp only [execOp, ho, hv, ev_int h hy, Sem.run_bind, guard_nil, Result.andThen_ok, run_eqNil _ hop hu, Sem.run_pure]
    · rw [hdst]
      exact hK _ _ ⟨ρ, h.put dst hd fun _ => .c (.v _)⟩
end
end Go.AM
