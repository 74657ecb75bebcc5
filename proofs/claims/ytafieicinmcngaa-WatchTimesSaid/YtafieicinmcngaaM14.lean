/- The abstract machine, part 14: what a step looks at, what it names. It speaks of whatever program. -/
import Derived.Test.YtafieicinmcngaaM13
namespace Go.AM
open Go Go.RowKit
set_option linter.unusedVariables false
set_option linter.unusedSimpArgs false

section
variable {E : Env} {m m' : Nat → Option Ob} {ev ev' : Operand → AV}

theorem One.loc_ {x : AV} {R : List Nat} (h : One m x R) (hm : ∀ i ∈ R, m' i = m i) : One m' x R := by
  cases h with
  | v h => exact .v h
  | fl b => exact .fl b
  | sl sz xs => exact .sl sz xs
  | ad cs => exact .ad cs
  | ms h hn => exact .ms (by rw [hm _ (by simp)]; exact h) hn
  | loc h => exact .loc (by rw [hm _ (by simp)]; exact h)
theorem Cells.loc_ {x : AV} {ys : List AV} {R : List Nat} (h : Cells m x ys R) (hm : ∀ i ∈ R, m' i = m i) : Cells m' x ys R := by
  cases h with
  | agg _ => exact .agg _
  | cagg cs => exact .cagg cs
  | one h => exact .one (h.loc_ hm)
theorem AllOne.loc_ {xs : List AV} {R : List Nat} (h : AllOne m xs R) : (∀ i ∈ R, m' i = m i) → AllOne m' xs R := by
  induction h with
  | nil => exact fun _ => .nil
  | cons h hs ih => exact fun hm => .cons (h.loc_ fun i hi => hm i (List.mem_append_left _ hi)) (ih fun i hi => hm i (List.mem_append_right _ hi))
theorem Fill.loc_ {fs : Array Field} {cells out : List AV} {parts : List (Nat × AV)} {R : List Nat} (h : Fill E m fs cells parts out R) : (∀ i ∈ R, m' i = m i) → Fill E m' fs cells parts out R := by
  induction h with
  | nil cells => exact fun _ => .nil cells
  | cons hf ht hc hl hb h ih => exact fun hm => .cons hf ht (hc.loc_ fun i hi => hm i (List.mem_append_left _ hi)) hl hb (ih fun i hi => hm i (List.mem_append_right _ hi))

theorem ToB.loc_ {xs : List AV} {cs : List CV} {R : List Nat} (h : ToB m xs cs R) : (∀ i ∈ R, m' i = m i) → ToB m' xs cs R := by
  induction h with
  | nil => exact fun _ => .nil
  | c hc hs ih => exact fun hm => .c hc (ih hm)
  | ms hm hn hs ih => exact fun h => .ms (by rw [h _ (by simp)]; exact hm) hn (ih fun i hi => h i (by simp [hi]))
  | agg hu hs ihu ih => exact fun hm => .agg (ihu fun i hi => hm i (List.mem_append_left _ hi)) (ih fun i hi => hm i (List.mem_append_right _ hi))
theorem map_ev {l : List Operand} (h : ∀ x ∈ l, ev' x = ev x) : l.map ev' = l.map ev := List.map_congr_left h
theorem map_ev2 {l : List (Nat × Operand)} (h : ∀ x ∈ l.map (·.2), ev' x = ev x) : (l.map fun p => (p.1, ev' p.2)) = l.map fun p => (p.1, ev p.2) :=
  List.map_congr_left fun p hp => by rw [h p.2 (List.mem_map.2 ⟨p, hp, rfl⟩)]
theorem map_ev3 {l : List (Nat × Operand)} (h : ∀ x ∈ l.map (·.2), ev' x = ev x) : (l.map fun p => ev' p.2) = l.map fun p => ev p.2 :=
  List.map_congr_left fun p hp => by rw [h p.2 (List.mem_map.2 ⟨p, hp, rfl⟩)]

theorem StepV.loc_ {op : Op} {v : AV} {R : List Nat} (h : StepV E m ev op v R) (he : ∀ x ∈ op.operands.toList, ev' x = ev x) (hm : ∀ i ∈ R, m' i = m i) : StepV E m' ev' op v R := by
  cases h with
  | move x => rw [← he x (by simp [Op.operands])]; exact .move x
  | assign x => rw [← he x (by simp [Op.operands])]; exact .assign x
  | pickT hc => rename_i c a b; rw [← he a (by simp [Op.operands])]; exact .pickT (by rw [he c (by simp [Op.operands])]; exact hc)
  | pickF hc => rename_i c a b; rw [← he b (by simp [Op.operands])]; exact .pickF (by rw [he c (by simp [Op.operands])]; exact hc)
  | loadL hx h2 ht hd hy => exact .loadL (by rw [he _ (by simp [Op.operands])]; exact hx) (by rw [hm _ (by simp)]; exact h2) ht hd hy
  | loadLA hx h2 ht hd hy => exact .loadLA (by rw [he _ (by simp [Op.operands])]; exact hx) (by rw [hm _ (by simp)]; exact h2) ht hd hy
  | loadC hx ht hd hy => exact .loadC (by rw [he _ (by simp [Op.operands])]; exact hx) ht hd hy
  | loadCA hx ht hd hy => exact .loadCA (by rw [he _ (by simp [Op.operands])]; exact hx) ht hd hy
  | loadE hx h2 hn hk ht hd hy => exact .loadE (by rw [he _ (by simp [Op.operands])]; exact hx) (by rw [hm _ (by simp)]; exact h2) hn hk ht hd hy
  | loadEA hx h2 hn hk ht hd hy => exact .loadEA (by rw [he _ (by simp [Op.operands])]; exact hx) (by rw [hm _ (by simp)]; exact h2) hn hk ht hd hy
  | fldL hx h2 ht hd hf h3 h0 => exact .fldL (by rw [he _ (by simp [Op.operands])]; exact hx) (by rw [hm _ (by simp)]; exact h2) ht hd hf h3 h0
  | fldC hx ht hd hf h3 h0 hl => exact .fldC (by rw [he _ (by simp [Op.operands])]; exact hx) ht hd hf h3 h0 hl
  | fldE hx h2 hn ht hd hf h3 h0 => exact .fldE (by rw [he _ (by simp [Op.operands])]; exact hx) (by rw [hm _ (by simp)]; exact h2) hn ht hd hf h3 h0
  | idxC hx hi h0 hy ht hd h3 hs => exact .idxC (by rw [he _ (by simp [Op.operands])]; exact hx) (by rw [he _ (by simp [Op.operands])]; exact hi) h0 hy ht hd h3 hs
  | idxM hx h2 hn hi h0 hlt ht hd h3 hs => exact .idxM (by rw [he _ (by simp [Op.operands])]; exact hx) (by rw [hm _ (by simp)]; exact h2) hn (by rw [he _ (by simp [Op.operands])]; exact hi) h0 hlt ht hd h3 hs
  | idxS hx hi h0 hc ht hd => exact .idxS (by rw [he _ (by simp [Op.operands])]; exact hx) (by rw [he _ (by simp [Op.operands])]; exact hi) h0 hc ht hd
  | lenC hx ht hd => exact .lenC (by rw [he _ (by simp [Op.operands, Call.operands])]; exact hx) ht hd
  | lenV hx ht hd => exact .lenV (by rw [he _ (by simp [Op.operands, Call.operands])]; exact hx) ht hd
  | lenM hx h2 hn ht hd => exact .lenM (by rw [he _ (by simp [Op.operands, Call.operands])]; exact hx) (by rw [hm _ (by simp)]; exact h2) hn ht hd
  | lenS hx ht hd => exact .lenS (by rw [he _ (by simp [Op.operands, Call.operands])]; exact hx) ht hd
  | binI hx hy hr => exact .binI (by rw [he _ (by simp [Op.operands])]; exact hx) (by rw [he _ (by simp [Op.operands])]; exact hy) hr
  | binR hx hy hr => exact .binR (by rw [he _ (by simp [Op.operands])]; exact hx) (by rw [he _ (by simp [Op.operands])]; exact hy) hr
  | binS hx hy hr => exact .binS (by rw [he _ (by simp [Op.operands])]; exact hx) (by rw [he _ (by simp [Op.operands])]; exact hy) hr
  | binSA hx hy hr => exact .binSA (by rw [he _ (by simp [Op.operands])]; exact hx) (by rw [he _ (by simp [Op.operands])]; exact hy) hr
  | binBE hx hy ht hd => exact .binBE (by rw [he _ (by simp [Op.operands])]; exact hx) (by rw [he _ (by simp [Op.operands])]; exact hy) ht hd
  | binBN hx hy ht hd => exact .binBN (by rw [he _ (by simp [Op.operands])]; exact hx) (by rw [he _ (by simp [Op.operands])]; exact hy) ht hd
  | binF hx hy ha hb hr => exact .binF (by rw [he _ (by simp [Op.operands])]; exact hx) (by rw [he _ (by simp [Op.operands])]; exact hy) ha hb hr
  | binFA hx hy ha hb => exact .binFA (by rw [he _ (by simp [Op.operands])]; exact hx) (by rw [he _ (by simp [Op.operands])]; exact hy) ha hb
  | unN hx => exact .unN (by rw [he _ (by simp [Op.operands])]; exact hx)
  | unG hx => exact .unG (by rw [he _ (by simp [Op.operands])]; exact hx)
  | conv hx ht hu hd => exact .conv (by rw [he _ (by simp [Op.operands])]; exact hx) ht hu hd
  | convF hx ht hu hd => exact .convF (by rw [he _ (by simp [Op.operands])]; exact hx) ht hu hd
  | convB hx ht hd h3 hde hu hd' => exact .convB (by rw [he _ (by simp [Op.operands])]; exact hx) ht hd h3 hde hu hd'
  | extract hx hy => exact .extract (by rw [he _ (by simp [Op.operands])]; exact hx) hy
  | build ht hd ha hf => exact .build ht hd ha (by rw [map_ev2 (ev := ev) (by simpa [Op.operands] using he)]; exact hf.loc_ hm)
  | slc hx ht hd h3 hs hlo hhi hlh hh =>
    rename_i t x lo hi sz e l h xs d de
    refine .slc (by rw [he _ (by simp [Op.operands])]; exact hx) ht hd h3 hs ?_ ?_ hlh hh
    · cases lo with
      | none => exact hlo
      | some o => simp only at hlo ⊢; rw [he o (by simp [Op.operands])]; exact hlo
    · cases hi with
      | none => exact hhi
      | some o => simp only at hhi ⊢; rw [he o (by simp [Op.operands])]; exact hhi
  | mkfun hc => exact .mkfun (by rw [map_ev (ev := ev) (by simpa [Op.operands] using he)]; exact hc)
  | mkfunC hc => exact .mkfunC (by rw [map_ev (ev := ev) (by simpa [Op.operands] using he)]; exact hc)
  | boxC hx hp h0 => exact .boxC (by rw [he _ (by simp [Op.operands])]; exact hx) hp h0
  | bslice ht hd h3 hs h0 hi hx hl hb => exact .bslice ht hd h3 hs h0 hi (by rw [map_ev3 (ev := ev) (by simpa [Op.operands] using he)]; exact hx) hl hb
  | mkslice hx hy ht hd h3 hz hs hb hn => exact .mkslice (by rw [he _ (by simp [Op.operands])]; exact hx) (by rw [he _ (by simp [Op.operands])]; exact hy) ht hd h3 hz hs hb hn
  | callP hc hx ha hp => exact .callP (by rw [he _ (by simp [Op.operands, Call.operands])]; exact hc) (by rw [map_ev (ev := ev) fun x hx => he x (by simp [Op.operands, Call.operands]; exact .inr (by simpa using hx))]; exact hx) ha hp
  | callF hc hx ha hp => exact .callF (by rw [he _ (by simp [Op.operands, Call.operands])]; exact hc) (by rw [map_ev (ev := ev) fun x hx => he x (by simp [Op.operands, Call.operands]; exact .inr (by simpa using hx))]; exact hx) ha hp
  | callX hc hx ha hp => exact .callX (by rw [he _ (by simp [Op.operands, Call.operands])]; exact hc) (by rw [map_ev (ev := ev) fun x hx => he x (by simp [Op.operands, Call.operands]; exact .inr (by simpa using hx))]; exact hx) ha hp
  | callB hc hx hp hs => exact .callB (by rw [he _ (by simp [Op.operands, Call.operands])]; exact hc) (by rw [map_ev (ev := ev) fun x hx => he x (by simp [Op.operands, Call.operands]; exact .inr (by simpa using hx))]; exact hx.loc_ hm) hp hs

theorem StepR.loc_ {dst : Option Tmp} {op : Op} {v : AV} {mw : List (Nat × Option Ob)} {R F : List Nat} (h : StepR E m ev dst op v mw R F) (he : ∀ x ∈ op.operands.toList, ev' x = ev x) (hm : ∀ i ∈ R, m' i = m i) :
    StepR E m' ev' dst op v mw R F := by
  cases h with
  | val h => exact .val (h.loc_ he hm)
  | box hc => exact .box (by rw [he _ (by simp [Op.operands])]; exact hc.loc_ hm)
  | alloc ht => exact .alloc ht
  | storeL hx h2 ht hy h1 hl hb =>
    exact .storeL (by rw [he _ (by simp [Op.operands])]; exact hx) (by rw [hm _ (by simp)]; exact h2) ht (by rw [he _ (by simp [Op.operands])]; exact hy.loc_ fun i hi => hm i (by simp [hi])) (h1.loc_ fun i hi => hm i (by simp [hi])) hl hb
  | appM hx h2 hn hy ht hd h3 hs hb hb0 h1 h0 =>
    exact .appM (by rw [he _ (by simp [Op.operands, Call.operands])]; exact hx) (by rw [hm _ (by simp)]; exact h2) hn (by rw [he _ (by simp [Op.operands, Call.operands])]; exact hy) ht hd h3 hs hb hb0 h1 h0
  | appN hx hy ht hd h3 hs h0 hb hb0 h1 =>
    exact .appN (by rw [he _ (by simp [Op.operands, Call.operands])]; exact hx) (by rw [he _ (by simp [Op.operands, Call.operands])]; exact hy) ht hd h3 hs h0 hb hb0 h1
  | mkM hx hy hnc ht hd h3 hz hs hb hc =>
    exact .mkM (by rw [he _ (by simp [Op.operands])]; exact hx) (by rw [he _ (by simp [Op.operands])]; exact hy) hnc ht hd h3 hz hs hb hc
  | storeE hx h2 hn hk ht hy hz h1 hl hb hee =>
    exact .storeE (by rw [he _ (by simp [Op.operands])]; exact hx) (by rw [hm _ (by simp)]; exact h2) hn hk ht (by rw [he _ (by simp [Op.operands])]; exact hy.loc_ fun i hi => hm i (by simp [hi])) hz h1 hl hb hee
  | callO hc hx h2 hnb hlt hp =>
    exact .callO (by rw [he _ (by simp [Op.operands, Call.operands])]; exact hc) (by rw [map_ev (ev := ev) fun x hx => he x (by simp [Op.operands, Call.operands]; exact .inr (by simpa using hx))]; exact hx)
      (fun p hp => by rw [hm _ (List.mem_map.2 ⟨p, hp, rfl⟩)]; exact h2 p hp) hnb hlt hp
  | run xs hx h => exact .run xs (fun p hp => ⟨by rw [he _ (hx p hp).2]; exact (hx p hp).1, (hx p hp).2⟩) h
  | nilL hx h2 => exact .nilL (by rw [he _ (by simp [Op.operands])]; exact hx) (by rw [hm _ (by simp)]; exact h2)
  | nilE hx h2 hn => exact .nilE (by rw [he _ (by simp [Op.operands])]; exact hx) (by rw [hm _ (by simp)]; exact h2) hn
  | idxL hx h2 hi h0 hlt ht hd h3 => exact .idxL (by rw [he _ (by simp [Op.operands])]; exact hx) (by rw [hm _ (by simp)]; exact h2) (by rw [he _ (by simp [Op.operands])]; exact hi) h0 hlt ht hd h3
  | eqNL hop hx h2 hy ht hd => exact .eqNL hop (by rw [he _ (by simp [Op.operands])]; exact hx) (by rw [hm _ (by simp)]; exact h2) (by rw [he _ (by simp [Op.operands])]; exact hy) ht hd
end
end Go.AM
