/- The plain law: what a check that passes tells. -/
import Derived.Test.YtbjcckjhfjhicaaF12
namespace Go.Proofs.Ytbjcckjhfjhicaa
open Go Go.AM
set_option linter.unusedVariables false
set_option maxRecDepth 100000
set_option linter.unusedSimpArgs false

theorem str_eq {a b : ByteArray} (h : (a.toList == b.toList) = true) : a = b := by
  simp only [ByteArray.toList_eq, beq_iff_eq] at h
  exact ByteArray.ext (Array.ext' h)
theorem str_refl (a : ByteArray) : (a.toList == a.toList) = true := by simp

theorem firstErr_zero {l : List V} (h : firstErr l = 0) : ∀ x ∈ l, checkS x = 0 := by
  intro x hx
  unfold firstErr at h
  cases hf : l.find? (fun v => checkS v != 0) with
  | none => have := List.find?_eq_none.1 hf x hx; simpa using this
  | some y =>
    rw [hf] at h
    have := List.find?_some hf
    simp at h this
    exact absurd h this
theorem tailS_zero {p : Int → V → Bool} {t : ByteArray} {l : List V} (h : tailS p t l = 0) : (∀ x ∈ l, checkS x = 0) ∧ okS p t l = true := by
  unfold tailS at h
  split at h
  · rename_i h1; simp at h1; exact absurd h h1
  · rename_i h1
    simp at h1
    split at h
    · rename_i h2; exact ⟨firstErr_zero h1, h2⟩
    · cases h

/-! the program's table and the reference's say the same -/
def convT (t : ByteArray) : ByteArray := ⟨⟨t.data.toList.map fun b => if b == 35 then 102 else b⟩⟩
def convM (m : Meth) : Meth := (m.1, convT m.2.1, m.2.2)
theorem methA_conv (c : ByteArray) : methA c = (methR c).map convM := by
  unfold methA methR
  repeat' split
  all_goals rfl
theorem findA (c n : ByteArray) : findS (methA c) n = (findS (methR c) n).map convM := by
  rw [methA_conv]
  unfold findS
  rw [List.find?_map]
  rfl
/-- No method takes an f: there the program's own table writes one. -/
def noF (t : ByteArray) : Bool := t.data.toList.all (· != 102)
theorem methR_noF (c : ByteArray) : ∀ m ∈ methR c, noF m.2.1 = true := by
  have : (methR c).all (fun m => noF m.2.1) = true := by
    unfold methR
    repeat' split
    all_goals decide
  exact fun m hm => List.all_eq_true.1 this m hm
theorem noF_noMeth : noF noMeth.2.1 = true := by decide
theorem byteAt_eq (t : ByteArray) (j : Nat) : byteAt t j = ((t.data.toList[j]?.map UInt8.toNat).getD 0 : Nat) := by
  rw [Array.getElem?_toList]
  unfold byteAt
  by_cases h : j < t.size
  · rw [getElem?_pos t j h]
    have h' : j < t.data.size := h
    rw [Array.getElem?_eq_getElem h']; rfl
  · rw [getElem?_neg t j h]
    have h' : ¬ j < t.data.size := h
    rw [Array.getElem?_eq_none (by omega)]
theorem right_conv {t : ByteArray} (h : noF t = true) (j : Nat) (v : V) : rightA (byteAt (convT t) j) v = rightR (byteAt t j) v := by
  rw [byteAt_eq, byteAt_eq]
  unfold convT
  simp only [List.getElem?_map]
  cases hj : t.data.toList[j]? with
  | none => rfl
  | some b =>
    have hb : b ≠ 102 := by
      unfold noF at h
      rw [List.all_eq_true] at h
      have := h b (List.mem_of_getElem? hj)
      simpa using this
    simp only [Option.map_some, Option.getD_some]
    by_cases h35 : b = 35
    · subst h35; rfl
    · have e1 : (b == 35) = false := by simpa using h35
      rw [e1]
      have n35 : b.toNat ≠ 35 := fun e => h35 (by apply UInt8.toNat_inj.1; rw [e]; rfl)
      have n102 : b.toNat ≠ 102 := fun e => hb (by apply UInt8.toNat_inj.1; rw [e]; rfl)
      unfold rightA rightR
      have a1 : (((b.toNat : Nat) : Int) == 102) = false := by simp; omega
      have a2 : (((b.toNat : Nat) : Int) == 35) = false := by simp; omega
      simp only [Bool.false_eq_true, if_false, a1, a2]
theorem convT_size (t : ByteArray) : (convT t).size = t.size := by
  show (Array.mk (t.data.toList.map _)).size = t.data.size
  simp
theorem convT_sS {t : ByteArray} (h : noF t = true) : ((convT t).toList == sS.toList) = (t.toList == sS.toList) := by
  rw [Bool.eq_iff_iff]
  constructor
  · intro e
    have e := str_eq e
    have hs : t.size = 1 := by rw [← convT_size, e]; rfl
    have : t = sS := by
      have hb0 : byteAt (convT t) 0 = 115 := by rw [e]; rfl
      have hd : t.data.size = 1 := hs
      rw [byteAt_eq] at hb0
      unfold convT at hb0
      simp only [List.getElem?_map] at hb0
      have h0 : 0 < t.data.size := by omega
      rw [Array.getElem?_toList, Array.getElem?_eq_getElem h0] at hb0
      simp only [Option.map_some, Option.getD_some] at hb0
      by_cases h35 : (t.data[0] == 35) = true
      · rw [if_pos h35] at hb0; cases hb0
      · rw [if_neg h35] at hb0
        apply ByteArray.ext
        apply Array.ext
        · rw [hd]; rfl
        · intro i h1 h2
          have hi : i = 0 := by omega
          subst hi
          apply UInt8.toNat_inj.1
          show t.data[0].toNat = 115
          omega
    rw [this]; simp
  · intro e
    have e := str_eq e
    rw [e]; simp [ByteArray.toList_eq]; rfl
theorem okS_congr {p q : Int → V → Bool} {t u : ByteArray} {l : List V} (h : ∀ j, j < l.length → ∀ v, p (byteAt t j) v = q (byteAt u j) v) : okS p t l = okS q u l := by
  unfold okS
  rw [Bool.eq_iff_iff, List.all_eq_true, List.all_eq_true]
  constructor
  · intro k j hj; rw [← h j (List.mem_range.1 hj)]; exact k j hj
  · intro k j hj; rw [h j (List.mem_range.1 hj)]; exact k j hj
theorem tailS_congr {p q : Int → V → Bool} {t u : ByteArray} {l : List V} (h : ∀ j, j < l.length → ∀ v, p (byteAt t j) v = q (byteAt u j) v) : tailS p t l = tailS q u l := by
  unfold tailS; rw [okS_congr h]
theorem byteAt_sN {k j : Nat} (h : j < k) : byteAt (sN k) j = 115 := by
  rw [byteAt_eq]
  rw [Array.getElem?_toList]
  show ((((Array.replicate k (115 : UInt8))[j]?.map UInt8.toNat).getD 0 : Nat) : Int) = 115
  rw [Array.getElem?_replicate, if_pos h]; rfl
theorem byteAt_s8 {j : Nat} (h : j < 8) : byteAt s8 j = 115 := by
  rw [byteAt_eq]
  match j with
  | 0 | 1 | 2 | 3 | 4 | 5 | 6 | 7 => rfl
  | j + 8 => omega

/-- WHAT THE PROGRAM TAKES is what the reference takes. -/
theorem checkA_eq (c n : ByteArray) (l : List V) : checkA c n l = checkR c n l := by
  unfold checkA checkR
  rw [findA]
  cases hf : findS (methR c) n with
  | none => rfl
  | some m =>
    have hm : noF m.2.1 = true := methR_noF c m (by unfold findS at hf; exact List.mem_of_find?_eq_some hf)
    simp only [Option.map_some, Option.isSome_some, if_true, Option.getD_some]
    have e1 : (convM m).2.1 = convT m.2.1 := rfl
    rw [e1]
    unfold kindsOf
    rw [convT_sS hm]
    by_cases hs : (m.2.1.toList == sS.toList) = true
    · rw [hs]
      simp only [Bool.not_true, Bool.false_eq_true, if_false, if_true]
      by_cases h1 : (l.length : Int) < 1
      · simp [h1, show ¬ (1 : Int) ≤ l.length by omega]
      · by_cases h8 : (l.length : Int) > 8
        · rw [if_neg (by simp; omega), if_pos (by simp; omega)]
        · rw [if_pos (by simp; omega), if_neg (by simp; omega)]
          exact tailS_congr fun j hj v => by rw [byteAt_s8 (by omega), byteAt_sN hj]; rfl
    · have hs : (m.2.1.toList == sS.toList) = false := by simpa using hs
      rw [hs]
      simp only [Bool.not_false, Bool.false_eq_true, if_false, if_true, convT_size]
      by_cases hl : m.2.1.size = l.length
      · rw [if_pos (by simp [hl]), if_neg (by simp [hl])]
        exact tailS_congr fun j hj v => right_conv hm j v
      · rw [if_neg (by simp; omega), if_pos (by simp; omega)]
theorem check_of (c n : ByteArray) (l : List V) (h : checkR c n l = 0) : ∃ m, findS (methR c) n = some m ∧ (∀ x ∈ l, checkS x = 0) ∧
    ((m.2.1 = sS ∧ 1 ≤ l.length ∧ l.length ≤ 8 ∧ okS rightR (sN l.length) l = true) ∨ (m.2.1 ≠ sS ∧ m.2.1.size = l.length ∧ okS rightR m.2.1 l = true)) := by
  unfold checkR at h
  cases hf : findS (methR c) n with
  | none => rw [hf] at h; cases h
  | some m =>
    rw [hf] at h
    simp only [Option.isSome_some, if_true, Option.getD_some] at h
    refine ⟨m, rfl, ?_⟩
    split at h
    · rename_i hs
      split at h
      · cases h
      · rename_i hl
        obtain ⟨h1, h2⟩ := tailS_zero h
        simp at hl
        exact ⟨h1, .inl ⟨str_eq hs, by omega, by omega, h2⟩⟩
    · rename_i hs
      split at h
      · cases h
      · rename_i hl
        obtain ⟨h1, h2⟩ := tailS_zero h
        simp at hl
        exact ⟨h1, .inr ⟨fun e => hs (by rw [e]; simp), by omega, h2⟩⟩
end Go.Proofs.Ytbjcckjhfjhicaa
