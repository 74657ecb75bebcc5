/- The abstract machine, part 4: floats up to a NaN's bits; slices of the call's own; reading objects. It speaks of whatever program. -/
import Derived.Test.YtafieicinmcngaaM3
import Derived.Maps.AppendAt
import Derived.Laws.Cover2
namespace Go.AM
open Go Go.RowKit
set_option linter.unusedVariables false

/-! floats -/
theorem order_nan_left {d e : Ieee.Datum} (h : d.order d = none) : d.order e = none := by
  cases d with
  | nan n f => rfl
  | infinity s => simp [Ieee.Datum.order] at h
  | number s m i => simp [Ieee.Datum.order] at h
theorem order_nan_right {d e : Ieee.Datum} (h : d.order d = none) : e.order d = none := by
  cases d with
  | nan n f => cases e <;> rfl
  | infinity s => simp [Ieee.Datum.order] at h
  | number s m i => simp [Ieee.Datum.order] at h
theorem sum_nan_left {d e : Ieee.Datum} (h : d.order d = none) : d.sum e = none := by
  cases d with
  | nan n f => rfl
  | infinity s => simp [Ieee.Datum.order] at h
  | number s m i => simp [Ieee.Datum.order] at h
theorem sum_nan_right {d e : Ieee.Datum} (h : d.order d = none) : e.sum d = none := by
  cases d with
  | nan n f => cases e <;> rfl
  | infinity s => simp [Ieee.Datum.order] at h
  | number s m i => simp [Ieee.Datum.order] at h

theorem flRel.order {b c b' c' : Nat} (h : flRel b c) (h' : flRel b' c') : FloatKind.f64.format.order b b' = FloatKind.f64.format.order c c' := by
  rcases h with rfl | ⟨h1, h2⟩
  · rcases h' with rfl | ⟨h1', h2'⟩
    · rfl
    · unfold fnan at h1' h2'; unfold Ieee.Format.order at *
      rw [order_nan_right h1', order_nan_right h2']
  · unfold fnan at h1 h2; unfold Ieee.Format.order at *
    rw [order_nan_left h1, order_nan_left h2]

def cnan : Nat := 0x7ff8000000000001
def addF (b c : Nat) : Nat := match FloatKind.f64.format.add b c with | some r => r | none => cnan

theorem read_nan (r : Nat) (neg : Bool) (h1 : 0x7ff0000000000000 < r) (h2 : r < 2 ^ 63) : FloatKind.f64.format.read ((if neg then 2 ^ 63 else 0) + r) = .nan neg (r - 0x7ff0000000000000) := by
  have hs : (FloatKind.f64.format).signWeight = 2 ^ 63 := rfl
  have hb : (FloatKind.f64.format).binade = 2 ^ 52 := rfl
  have hi : (FloatKind.f64.format).infRung = 0x7ff0000000000000 := rfl
  unfold Ieee.Format.read
  simp only [hs, hb, hi]
  have hm : ((if neg = true then 2 ^ 63 else 0) + r) % 2 ^ 63 = r := by cases neg <;> simp <;> omega
  have hd : (((if neg = true then 2 ^ 63 else 0) + r) / 2 ^ 63 % 2 == 1) = neg := by
    cases neg
    · have : r / 2 ^ 63 = 0 := by omega
      simp [this]
    · have : (2 ^ 63 + r) / 2 ^ 63 = 1 := by omega
      simp [this]
  rw [hm, hd, if_neg (by omega), if_neg (by omega), if_neg (by omega)]
theorem fnan_of_read {r : Nat} {n : Bool} {f : Nat} (h : FloatKind.f64.format.read r = .nan n f) : fnan r := by
  unfold fnan Ieee.Format.order; rw [h]; rfl
theorem fnan_cnan : fnan cnan := by
  refine fnan_of_read (n := false) (f := cnan - 0x7ff0000000000000) ?_
  have := read_nan cnan false (by unfold cnan; omega) (by unfold cnan; omega)
  simpa using this
theorem fnan_cut (x y t : Nat) : fnan ((Question.nanBits .f64 x y).cut t) := by
  unfold Question.cut
  have h2 : (t / 2) % (2 ^ 52 - 1) < 2 ^ 52 - 1 := Nat.mod_lt _ (by decide)
  rcases Nat.mod_two_eq_zero_or_one t with h | h
  · have hr := read_nan (0x7ff0000000000000 + 1 + (t / 2) % (2 ^ 52 - 1)) false (by omega) (by omega)
    have e : (t % 2) * 2 ^ 63 + 0x7ff0000000000000 + 1 + (t / 2) % (2 ^ 52 - 1) = (if false = true then 2 ^ 63 else 0) + (0x7ff0000000000000 + 1 + (t / 2) % (2 ^ 52 - 1)) := by
      rw [h]; simp
    show fnan ((t % 2) * 2 ^ 63 + 0x7ff0000000000000 + 1 + (t / 2) % (2 ^ 52 - 1))
    rw [e]; exact fnan_of_read hr
  · have hr := read_nan (0x7ff0000000000000 + 1 + (t / 2) % (2 ^ 52 - 1)) true (by omega) (by omega)
    have e : (t % 2) * 2 ^ 63 + 0x7ff0000000000000 + 1 + (t / 2) % (2 ^ 52 - 1) = (if true = true then 2 ^ 63 else 0) + (0x7ff0000000000000 + 1 + (t / 2) % (2 ^ 52 - 1)) := by
      rw [h, if_pos rfl]; omega
    show fnan ((t % 2) * 2 ^ 63 + 0x7ff0000000000000 + 1 + (t / 2) % (2 ^ 52 - 1))
    rw [e]; exact fnan_of_read hr

theorem flRel.add_run (P : Program) {t : TypeId} {b c b' c' : Nat} (h : flRel b c) (h' : flRel b' c') (w : World) :
    ∃ r w', (binOp .add t (.float .f64 b) (.float .f64 b')).run P w = .ok (.float .f64 r) w' ∧ flRel r (addF c c') ∧ (w' = w ∨ w' = w.drew) := by
  have hb : binOp .add t (.float .f64 b) (.float .f64 b') = Op.floatArith .add .f64 b b' := by simp [binOp]
  rw [hb]
  have key : FloatKind.f64.format.add b b' = FloatKind.f64.format.add c c' ∨ (FloatKind.f64.format.add b b' = none ∧ FloatKind.f64.format.add c c' = none) := by
    rcases h with rfl | ⟨h1, h2⟩
    · rcases h' with rfl | ⟨h1', h2'⟩
      · exact .inl rfl
      · unfold fnan at h1' h2'; unfold Ieee.Format.order at h1' h2'
        exact .inr ⟨by unfold Ieee.Format.add; rw [sum_nan_right h1']; rfl, by unfold Ieee.Format.add; rw [sum_nan_right h2']; rfl⟩
    · unfold fnan at h1 h2; unfold Ieee.Format.order at h1 h2
      exact .inr ⟨by unfold Ieee.Format.add; rw [sum_nan_left h1]; rfl, by unfold Ieee.Format.add; rw [sum_nan_left h2]; rfl⟩
  have key2 : FloatKind.f64.format.add b b' = FloatKind.f64.format.add c c' := by
    rcases key with h | ⟨h, h'⟩
    · exact h
    · rw [h, h']
  unfold addF
  rw [← key2]
  cases hr : FloatKind.f64.format.add b b' with
  | some r =>
    refine ⟨r, w, ?_, flRel.refl _, .inl rfl⟩
    simp [Op.floatArith, hr]
  | none =>
    refine ⟨_, w.drew, ?_, .inr ⟨fnan_cut b b' (w.tape w.drawn (.nanBits .f64 b b')), fnan_cnan⟩, .inr rfl⟩
    simp [Op.floatArith, hr, run_choose, Question.forced]
end Go.AM
