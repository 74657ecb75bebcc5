/- The plain law of clients: what is always so stays so. -/
import Derived.Test.YtcmldokgjbmbdaaP3
namespace Go.Proofs.Ytcmldokgjbmbdaa
open Go Go.AM
set_option linter.unusedVariables false
set_option maxRecDepth 100000
set_option linter.unusedSimpArgs false

def St.total (st : St) : Nat := st.os.length + st.rs.length
theorem wrap_id' {n : Int} (h1 : -9223372036854775808 ≤ n) (h2 : n < 9223372036854775808) : IntKind.i64.wrap n = n := by
  simp only [IntKind.wrap, IntKind.signed, IntKind.bits]
  simp
  omega
theorem bad_false {g m : ByteArray} {l : List V} (h : badS g m l = false) : l.length ≤ 16 ∧ ∀ v ∈ l, checkS v = 0 := by
  simp only [badS, Bool.or_eq_false_iff, decide_eq_false_iff_not] at h
  obtain ⟨_, _, h1, h2⟩ := h
  refine ⟨by omega, fun v hv => ?_⟩
  have := List.any_eq_false.1 h2 v hv
  simpa using this
theorem call_good {st : St} (h : Good st) (g m : ByteArray) (l : List V) : Good (callS st g m l).1 := by
  unfold callS
  cases hb : badS g m l
  · rw [if_neg (by decide)]
    obtain ⟨h1, h2⟩ := bad_false hb
    split
    · exact h
    · rename_i h4
      simp only [decide_eq_true_eq, ge_iff_le] at h4
      refine ⟨by simp; omega, fun x hx => ?_, fun x hx => ?_, h.vals⟩
      · simp only [List.mem_append, List.mem_singleton] at hx
        rcases hx with hx | rfl
        · exact h.args x hx
        · refine ⟨by simpa [newOp] using h1, fun v hv => ?_⟩
          simp only [newOp, List.mem_map] at hv
          obtain ⟨u, hu, rfl⟩ := hv
          exact ⟨cleanS_small (check_small (h2 u hu)), cleanS_idem u⟩
      · simp only [List.mem_append, List.mem_singleton] at hx
        rcases hx with hx | rfl
        · exact h.age x hx
        · exact ⟨by simp, by simp⟩
  · rw [if_pos rfl]; exact h
theorem call_total (st : St) (g m : ByteArray) (l : List V) : (callS st g m l).1.total ≤ st.total + 1 := by
  unfold callS St.total
  split
  · exact Nat.le_succ _
  · split
    · exact Nat.le_succ _
    · simp; omega
theorem out_good {st : St} (h : Good st) : Good (outS st) := by
  refine ⟨by simpa [outS] using h.len, fun x hx => ?_, fun x hx => ?_, h.vals⟩
  · simp only [outS, List.mem_map] at hx
    obtain ⟨y, hy, rfl⟩ := hx
    exact h.args y hy
  · simp only [outS, List.mem_map] at hx
    obtain ⟨y, hy, rfl⟩ := hx
    exact h.age y hy
theorem out_total (st : St) : (outS st).total = st.total := by simp [outS, St.total]
theorem ans_good {st : St} (h : Good st) (i : Nat) (r : RepS) (hr : smallS r.v = true) : Good (ansS st i r) := by
  have hsub : ∀ x, x ∈ st.os.eraseIdx i → x ∈ st.os := fun x hx => List.mem_of_mem_eraseIdx hx
  refine ⟨Nat.le_trans (List.length_eraseIdx_le _ _) h.len, fun x hx => h.args x (hsub x hx), fun x hx => h.age x (hsub x hx), fun x hx => ?_⟩
  simp only [ansS, List.mem_append, List.mem_singleton] at hx
  rcases hx with hx | rfl
  · exact h.vals x hx
  · exact ⟨cleanS_small hr, cleanS_idem _⟩
theorem ans_total {st : St} {i : Nat} (hi : i < st.os.length) (r : RepS) : (ansS st i r).total = st.total := by
  simp [ansS, St.total, List.length_eraseIdx, hi]; omega
theorem recv_good {st : St} (h : Good st) (r : RepS) (hr : smallS r.v = true) : Good (recvS st r).1 := by
  unfold recvS
  split
  · exact h
  · split
    · exact h
    · exact ans_good h _ r hr
theorem recv_total (st : St) (r : RepS) : (recvS st r).1.total = st.total := by
  unfold recvS
  split
  · rfl
  · rename_i i hi
    split
    · rfl
    · exact ans_total (List.findIdx?_eq_some_iff_getElem.1 hi).1 r
theorem nil_small : smallS nilV = true ∧ cleanS nilV = nilV := by
  constructor
  · rw [smallS_eq]; rfl
  · rw [cleanS_eq]; rfl
theorem tick_len (os : List OpenS) : (tickK os).length + (tickR os).length = os.length := by
  induction os with
  | nil => rfl
  | cons x os ih =>
    unfold tickK tickR at *
    simp only [List.filter_cons]
    cases oldX x <;> simp at ih ⊢ <;> omega
theorem tick_good {st : St} (h : Good st) : Good (tickS st) := by
  refine ⟨?_, fun x hx => ?_, fun x hx => ?_, fun r hr => ?_⟩
  · have := tick_len st.os
    have := h.len
    show (tickK st.os).length ≤ 4
    omega
  · simp only [tickS, tickK, List.mem_map, List.mem_filter] at hx
    obtain ⟨y, ⟨hy, _⟩, rfl⟩ := hx
    exact h.args y hy
  · simp only [tickS, tickK, List.mem_map, List.mem_filter] at hx
    obtain ⟨y, ⟨hy, ho⟩, rfl⟩ := hx
    obtain ⟨h1, h2⟩ := h.age y hy
    have hw : IntKind.i64.wrap (y.age + 1) = y.age + 1 := wrap_id' (by omega) (by omega)
    simp only [oldX, hw, Bool.not_eq_true', decide_eq_false_iff_not, ge_iff_le] at ho
    show 0 ≤ IntKind.i64.wrap (y.age + 1) ∧ IntKind.i64.wrap (y.age + 1) < 3000
    rw [hw]; omega
  · simp only [tickS, List.mem_append] at hr
    rcases hr with hr | hr
    · exact h.vals r hr
    · simp only [tickR, List.mem_map] at hr
      obtain ⟨x, _, rfl⟩ := hr
      exact nil_small
theorem tick_total (st : St) : (tickS st).total = st.total := by
  have := tick_len st.os
  simp [tickS, St.total]; omega
/-- One open call after the other. -/
theorem tickK_take {os : List OpenS} {k : Nat} {x : OpenS} (h : os[k]? = some x) : tickK (os.take (k + 1)) = tickK (os.take k) ++ (if oldX x then [] else [ageX x]) := by
  unfold tickK
  rw [List.take_add_one, h]
  simp only [Option.toList_some, List.filter_append, List.map_append, List.filter_cons, List.filter_nil]
  cases oldX x <;> rfl
theorem tickR_take {os : List OpenS} {k : Nat} {x : OpenS} (h : os[k]? = some x) : tickR (os.take (k + 1)) = tickR (os.take k) ++ (if oldX x then [timeR x] else []) := by
  unfold tickR
  rw [List.take_add_one, h]
  simp only [Option.toList_some, List.filter_append, List.map_append, List.filter_cons, List.filter_nil]
  cases oldX x <;> rfl
theorem outL_take {os : List OpenS} {k : Nat} {x : OpenS} (h : os[k]? = some x) : outL (os.take (k + 1)) = outL (os.take k) ++ (if x.now then [x.o] else []) := by
  unfold outL
  rw [List.take_add_one, h]
  simp only [Option.toList_some, List.filter_append, List.map_append, List.filter_cons, List.filter_nil]
  cases x.now <;> rfl
end Go.Proofs.Ytcmldokgjbmbdaa
