/- Walks: what panics and recovers. -/
import Derived.Test.YtbjcckjhfjhicaaE
import Derived.Test.YtbjcckjhfjhicaaB3
import Derived.Tactics
import Derived.Tactics2
import Derived.Defers
import Derived.Recover
import Derived.Laws.Pointers
namespace Go.Proofs.Ytbjcckjhfjhicaa
open Go Go.AM
set_option linter.unusedVariables false
set_option maxHeartbeats 4000000
set_option maxRecDepth 100000

theorem catch_panicking (p : Addr) (x : Int) (u : TypeId) (pv : Value) (older : List PanicEntry) (w : World) (hc : w.cell? p = some (.int .i64 x)) (hz : w.frozen? p = false) :
    CallsD Try.prog 120 #[.pointer (some p)] (.panicking ({ v := .iface u pv, recovered := false } :: older)) w fun e u' w' =>
      e = .returned (.tuple #[]) ∧ u' = .panicking ({ v := .iface u pv, recovered := true } :: older) ∧ w' = w.setCell p (.int .i64 34) := by
  refine callsD_of_wpS Try.func120 rfl fun c₀ cs hu => ?_
  apply wpS_seq
  apply wpS_region
  simp [wpOpsS, go_sem, recoverD, hu, Try.ntmps120, Exit.thenS]
  refine wpS_cond (t := true) (by simp [Act.eval, Array.replicate]) ?_
  simp only [if_true]
  apply wpS_region
  simp [wpOpsS, go_sem, hc, hz, bodyPostS, results, Try.results120]
theorem failing_w (w : World) :
    Calls Try.prog 103 #[] w fun e w' => e = .returned (.int .i64 34) ∧ w' = (w.alloc (.cells #[.int .i64 0] 28)).setCell ⟨w.heap.size, 0, none⟩ (.int .i64 34) := by
  have hmf : ∀ (fn : Fn) (first cap : Array Value) (w : World), (Instr.makeFunc fn first cap).run Try.prog w = .ok (.func fn first cap) w := fun _ _ _ _ => rfl
  have hmi : ∀ (v : Value) (w : World), (Instr.makeInterface 9 v).run Try.prog w = .ok (.iface 9 v) w := fun _ _ => rfl
  go_enter_defers Try.func103, Try.ntmps103
  go_wp2
  refine leaves_cons (f := 120) (args := #[.pointer (some ⟨w.heap.size, 0, none⟩)]) (by simp) (by simp [go_sem]) ?_
  refine (catch_panicking ⟨w.heap.size, 0, none⟩ 0 9 _ [] _ ?_ ?_).mono ?_
  · simp [go_sem]
  · simp [go_sem]
  rintro e u' w'' ⟨rfl, rfl, rfl⟩
  simp [Leaves, settle, results, Try.results103, go_sem]
theorem failing_c : Pure env.P 103 [] [.v (.int .i64 34)] := by
  refine ⟨⟨Try.f103, Try.func103, rfl, rfl⟩, fun w L vs hl _ _ => ?_⟩
  obtain rfl : vs = [] := List.eq_nil_of_length_eq_zero hl
  refine (failing_w w).mono ?_
  rintro e w' ⟨rfl, rfl⟩
  exact ⟨_, rfl, .v _, (Keep.alloc (fun _ => False) w _).trans (Keep.setCell (T := fun b => b = w.heap.size) _ _ _ rfl) fun x hx h => by have h : x = w.heap.size := h; omega⟩
end Go.Proofs.Ytbjcckjhfjhicaa
