/- A2 -/
import Derived.Test.YtladodfapnigfaaYSesx0
import Derived.Test.YtladodfapnigfaaYSesA1
import Derived.Lib.SliceRun
namespace Go.Proofs.Ytladodfapnigfaa.YSes
open Go.RowKit Go.Proofs.YtladodfapnigfaaW.PrintWords Go.Proofs.YtladodfapnigfaaW.PrintLast Go.Proofs.YtladodfapnigfaaW.PrintMore
attribute [local go_sem] max2_int min2_int max_two min_two max_three min_three max_four min_four
set_option linter.unusedVariables false
set_option linter.unusedSimpArgs false
/-- A row that is read, its cells in one list. -/
theorem rows_flat {α : Type} (R : α → List Value → Prop) (sz : Nat) (w : World) (ad : Addr) (P : Value → Prop) (hP : ∀ p c, R p c → ∀ u ∈ c, P u) (ps : List α) (h : ∀ j p, ps[j]? = some p → ∃ c, c.length = sz ∧ R p c ∧ ∀ i u, c[i]? = some u → w.cell? (ad.add (j * sz + i)) = some u) :
 ∃ xs, Reps R sz ps xs ∧ (∀ u ∈ xs, P u) ∧ ∀ j u, xs[j]? = some u → w.cell? (ad.add j) = some u := by
 suffices hs : ∀ n, n ≤ ps.length → ∃ xs, Reps R sz (ps.take n) xs ∧ (∀ u ∈ xs, P u) ∧ ∀ j u, xs[j]? = some u → w.cell? (ad.add j) = some u by
  simpa using hs ps.length (Nat.le_refl _)
 intro n
 induction n with
 | zero => intro _; exact ⟨[], by simpa using Reps.none R sz, by simp, by simp⟩
 | succ n ih =>
  intro hn
  obtain ⟨xs, h1, h2, h3⟩ := ih (by omega)
  obtain ⟨c, hc, hr, hcell⟩ := h n ps[n] (List.getElem?_eq_getElem (by omega))
  refine ⟨xs ++ c, ?_, fun u hu => ?_, fun j u hj => ?_⟩
  ·rw [List.take_add_one, List.getElem?_eq_getElem (by omega)]
   exact Reps.snoc h1 hr hc
  ·rcases List.mem_append.1 hu with hu | hu
   ·exact h2 u hu
   ·exact hP _ _ hr u hu
  ·have hl : xs.length = n * sz := by rw [h1.1, List.length_take]; congr 1; omega
   rcases Nat.lt_or_ge j xs.length with hlt | hge
   ·rw [List.getElem?_append_left hlt] at hj; exact h3 j u hj
   ·rw [List.getElem?_append_right hge] at hj
    have := hcell (j - xs.length) u hj
    rwa [hl, show n * sz + (j - n * sz) = j by omega] at this
theorem seg_at {xs : List Value} {a n : Nat} {ys : List Value} (h : (xs.drop a).take n = ys) (q : Nat) (hq : q < n) : xs[a + q]? = ys[q]? := by
 rw [← h, List.getElem?_take, if_pos hq, List.getElem?_drop]

theorem RowI.start {w : World} {B : Nat} {W : World} {v : Value} {l : List S24} {xs : List Value} (ho : W.ownsRow B 24 3 v l.length xs) (hx : Reps (k24.K w) 3 l xs) : RowI w B W v l 0 := by
 refine ⟨xs, fun _ => 0, ho, fun j x hj => ?_⟩
 obtain ⟨A, c, hs, hl, hC⟩ := k24_open (hx.2 j x hj)
 exact ⟨⟨seg_at hs 0 (by omega), seg_at hs 1 (by omega)⟩, _, seg_at hs 2 (by omega), fun h => absurd h (by omega), fun _ => ⟨A, c, rfl, hl, hC⟩⟩
theorem RowI.slice {w : World} {B : Nat} {W : World} {v : Value} {l : List S24} {i : Nat} (h : RowI w B W v l i) : ∃ A c, v = .slice A l.length c := by
 obtain ⟨inner, f, ho, _⟩ := h
 exact own_slice ho
set_option maxHeartbeats 4000000 in
set_option maxRecDepth 100000 in
/-- slices.Clone at a row of structs that is read. -/
theorem cloneItemRow.calls (A : Option Addr) (c : Nat) (l : List S24) (w0 w : World) (hb0 : Below w0.heap.size w0 w) (hr : Kd.C k24 w0 A l.length l) (hc : l.length ≤ c) (hn : l.length ≤ 1048576) :
 Calls Try.prog 77 #[.slice A l.length c] w fun e w' => ∃ v, e = .returned v ∧ RowI w0 w.heap.size w' v l 0 ∧ Below w.heap.size w w' := by
 cases A with
 | none =>
  have hl : l = [] := by
   cases l with
   | nil => rfl
   | cons x xs =>
    obtain ⟨ad, ha, _⟩ := hr.2.2 (by simp)
    cases ha
  subst hl
  have hnil := fun (w : World) => Lib.run_eql_slice_nil (P := Try.prog) w 45 24 none 0 c 0 0 Try.underlying45
  simp only [List.length_nil, Option.isNone_none] at hnil ⊢
  clear hr hc hn hb0
  go_enter Try.func77, Try.ntmps77
  go_wp2
  go_ret
  exact ⟨_, rfl, ⟨[], fun _ => 0, own_nil _ _ _ _, fun j x hj => by cases hj⟩, Below.refl _ _⟩
 | some ad =>
  obtain ⟨xs, hR, hone, hcell⟩ : ∃ xs, Reps (k24.K w0) 3 l xs ∧ (∀ u ∈ xs, u.oneCell' = true) ∧ ∀ j u, xs[j]? = some u → w0.cell? (ad.add j) = some u := by
   by_cases h0 : 0 < l.length
   ·obtain ⟨ad', e, hx⟩ := hr.2.2 h0
    cases e
    exact rows_flat (k24.K w0) 3 w0 ad _ (fun p c h => k24.K_one h) l hx
   ·have : l = [] := List.eq_nil_of_length_eq_zero (by omega)
    subst this
    exact ⟨[], Reps.none _ _, by simp, by simp⟩
  refine (cloneItem.calls ad l.length c xs hR.1 (fun j u hu => pw_cell_below hb0 (hcell j u hu)) hone hn).mono ?_
  rintro e w' ⟨v, rfl, ho, hb⟩
  exact ⟨v, rfl, .start ho hR, hb⟩

theorem RowS.start {w : World} {B : Nat} {W : World} {v : Value} {l : List S74} {xs : List Value} (ho : W.ownsRow B 74 4 v l.length xs) (hx : Reps (k74.K w) 4 l xs) : RowS w B W v l 0 := by
 refine ⟨xs, fun _ => 0, ho, fun j x hj => ?_⟩
 obtain ⟨A, c, hs, hl, hC⟩ := k74_open (hx.2 j x hj)
 exact ⟨⟨seg_at hs 0 (by omega), seg_at hs 1 (by omega), seg_at hs 2 (by omega)⟩, _, seg_at hs 3 (by omega), fun h => absurd h (by omega), fun _ => ⟨A, c, rfl, hl, hC⟩⟩
theorem RowS.slice {w : World} {B : Nat} {W : World} {v : Value} {l : List S74} {i : Nat} (h : RowS w B W v l i) : ∃ A c, v = .slice A l.length c := by
 obtain ⟨inner, f, ho, _⟩ := h
 exact own_slice ho
set_option maxHeartbeats 4000000 in
set_option maxRecDepth 100000 in
/-- slices.Clone at a row of structs that is read. -/
theorem cloneSessRow.calls (A : Option Addr) (c : Nat) (l : List S74) (w0 w : World) (hb0 : Below w0.heap.size w0 w) (hr : Kd.C k74 w0 A l.length l) (hc : l.length ≤ c) (hn : l.length ≤ 1048576) :
 Calls Try.prog 78 #[.slice A l.length c] w fun e w' => ∃ v, e = .returned v ∧ RowS w0 w.heap.size w' v l 0 ∧ Below w.heap.size w w' := by
 cases A with
 | none =>
  have hl : l = [] := by
   cases l with
   | nil => rfl
   | cons x xs =>
    obtain ⟨ad, ha, _⟩ := hr.2.2 (by simp)
    cases ha
  subst hl
  have hnil := fun (w : World) => Lib.run_eql_slice_nil (P := Try.prog) w 46 74 none 0 c 0 0 Try.underlying46
  simp only [List.length_nil, Option.isNone_none] at hnil ⊢
  clear hr hc hn hb0
  go_enter Try.func78, Try.ntmps78
  go_wp2
  go_ret
  exact ⟨_, rfl, ⟨[], fun _ => 0, own_nil _ _ _ _, fun j x hj => by cases hj⟩, Below.refl _ _⟩
 | some ad =>
  obtain ⟨xs, hR, hone, hcell⟩ : ∃ xs, Reps (k74.K w0) 4 l xs ∧ (∀ u ∈ xs, u.oneCell' = true) ∧ ∀ j u, xs[j]? = some u → w0.cell? (ad.add j) = some u := by
   by_cases h0 : 0 < l.length
   ·obtain ⟨ad', e, hx⟩ := hr.2.2 h0
    cases e
    exact rows_flat (k74.K w0) 4 w0 ad _ (fun p c h => k74.K_one h) l hx
   ·have : l = [] := List.eq_nil_of_length_eq_zero (by omega)
    subst this
    exact ⟨[], Reps.none _ _, by simp, by simp⟩
  refine (cloneSess.calls ad l.length c xs hR.1 (fun j u hu => pw_cell_below hb0 (hcell j u hu)) hone hn).mono ?_
  rintro e w' ⟨v, rfl, ho, hb⟩
  exact ⟨v, rfl, .start ho hR, hb⟩

end Go.Proofs.Ytladodfapnigfaa.YSes
