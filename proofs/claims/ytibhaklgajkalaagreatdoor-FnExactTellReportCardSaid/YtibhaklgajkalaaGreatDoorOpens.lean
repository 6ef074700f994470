/- What an argument's reading says of its cells, kind by kind: whole numbers, bools, strings, slices of a kind, structs of kinds. Conditions: each theorem's own hypotheses on the type's table. -/
import Derived.Test.YtibhaklgajkalaaGreatDoorWMore
import Derived.Deep.Slices
import Derived.ChangeArms
import Derived.ProofKit
import Derived.WalkKit
namespace Go.Proofs.YtibhaklgajkalaaGreatDoor.Opens
open Go.RowKit Go.Deep Go.ChangeAt Go.Proofs.YtibhaklgajkalaaGreatDoorW.PrintWords
section
variable {H : Type} (enc : TypeId × Value → H) (P : Program) (w : World)
def Opens {α : Type} (d : Kd α) (t : TypeId) (G : α → Prop) : Prop :=
  ∀ (fuel : Nat) (cs : List Value) (x : DataW H × List MemPlace), DataW.trod enc P w 0 (fun _ => true) true fuel t cs = some x → ∃ y, d.K w y cs ∧ G y
variable {enc P w}
theorem opens_int {t : TypeId} {k : IntKind} (ht : P.underlying t = some (.int k)) : Opens enc P w (Kd.int k) t (fun n => (Lit.int k n).wf = true) := by
  intro fuel cs x h
  obtain ⟨n, rfl, _, hw⟩ := DataW.trod_int ht h
  exact ⟨n, rfl, hw⟩
theorem opens_bool {t : TypeId} (ht : P.underlying t = some .bool) : Opens enc P w Kd.bool t (fun _ => True) := by
  intro fuel cs x h
  obtain ⟨n, rfl, _⟩ := DataW.trod_bool ht h
  exact ⟨n, rfl, trivial⟩
theorem opens_string {t : TypeId} (ht : P.underlying t = some .string) : Opens enc P w Kd.string t (fun s => s.size ≤ maxLen) := by
  intro fuel cs x h
  obtain ⟨s, rfl, _, hs⟩ := DataW.trod_string ht h
  exact ⟨s, rfl, hs⟩
theorem list_of {α : Type} {Q : Nat → α → Prop} (n : Nat) (h : ∀ i, i < n → ∃ y, Q i y) : ∃ ys : List α, ys.length = n ∧ ∀ i y, ys[i]? = some y → Q i y := by
  induction n with
  | zero => exact ⟨[], rfl, fun i y hy => by simp at hy⟩
  | succ n ih =>
    obtain ⟨ys, hl, hq⟩ := ih (fun i hi => h i (by omega))
    obtain ⟨y, hy⟩ := h n (by omega)
    refine ⟨ys ++ [y], by simp [hl], fun i z hz => ?_⟩
    by_cases c : i < ys.length
    · rw [List.getElem?_append_left c] at hz
      exact hq i z hz
    · by_cases e : i = ys.length
      · subst e
        rw [List.getElem?_append_right (Nat.le_refl _)] at hz
        simp at hz
        subst hz
        rw [hl]
        exact hy
      · rw [List.getElem?_eq_none (by simp; omega)] at hz
        cases hz
theorem opens_slice {α : Type} {d : Kd α} {t e : TypeId} {G : α → Prop} (ht : P.underlying t = some (.slice e)) (hs : P.cellsOf e = d.sz) (h : Opens enc P w d e G) :
    Opens enc P w (Kd.slice e d) t (fun xs => ∀ x ∈ xs, G x) := by
  intro fuel cs x hx
  rcases open_slice ht hx with ⟨rfl, _⟩ | ⟨a, len, cap, m, n, D, Pl, rfl, _, hl, hm, hmm, _, hel⟩
  · exact ⟨[], ⟨none, 0, rfl, by simp, Kd.C_nil d w⟩, fun x hx => by simp at hx⟩
  · have hlm : len ≤ m := by rw [hmm]; simpa using hl
    obtain ⟨ys, hyl, hys⟩ := list_of (Q := fun i y => ∃ c, c.length = d.sz ∧ d.K w y c ∧ (∀ j u, c[j]? = some u → w.cell? (a.add (i * d.sz + j)) = some u) ∧ G y) len (fun i hi => by
      obtain ⟨c, h1, h2⟩ := hel i (by omega)
      obtain ⟨y, hk, hg⟩ := h n c _ h2
      obtain ⟨_, hcl, hcc⟩ := World.cells?_some h1
      refine ⟨y, c, d.K_len hk, hk, fun j u hu => ?_, hg⟩
      have hj : j < c.length := by
        rcases Nat.lt_or_ge j c.length with h3 | h3
        · exact h3
        · rw [List.getElem?_eq_none h3] at hu; cases hu
      have h4 := hcc j (by omega)
      rw [hs, Deep.add_add, hu] at h4
      exact h4)
    refine ⟨ys, ⟨some a, cap, by rw [hyl], by omega, rfl, by rw [hyl]; unfold maxLen at hm; omega, fun _ => ⟨a, rfl, fun j p hp => ?_⟩⟩, fun x hx => ?_⟩
    · obtain ⟨c, h1, h2, h3, _⟩ := hys j p hp
      exact ⟨c, h1, h2, h3⟩
    · obtain ⟨i, hi⟩ := List.getElem?_of_mem hx
      obtain ⟨_, _, _, _, hg⟩ := hys i x hi
      exact hg
variable (enc P w)
def Fields {α : Type} (d : Kd α) (fs : List Field) (o : Nat) (G : α → Prop) : Prop :=
  ∀ (fuel : Nat) (cs : List Value), (∀ f ∈ fs, ∃ x : DataW H × List MemPlace, DataW.trod enc P w 0 (fun _ => true) true fuel f.type ((cs.drop f.offset).take (P.cellsOf f.type)) = some x) → ∃ y, d.K w y ((cs.drop o).take d.sz) ∧ G y
variable {enc P w}
theorem fields_one {α : Type} {d : Kd α} {f : Field} {o : Nat} {G : α → Prop} (h : Opens enc P w d f.type G) (ho : f.offset = o) (hs : P.cellsOf f.type = d.sz) : Fields enc P w d [f] o G := by
  intro fuel cs hf
  obtain ⟨x, hx⟩ := hf f (by simp)
  rw [ho, hs] at hx
  exact h _ _ _ hx
theorem fields_cons {α β : Type} {d : Kd α} {d2 : Kd β} {f : Field} {fs : List Field} {o : Nat} {G : α → Prop} {G2 : β → Prop} (h : Opens enc P w d f.type G) (ho : f.offset = o) (hs : P.cellsOf f.type = d.sz) (h2 : Fields enc P w d2 fs (o + d.sz) G2) :
    Fields enc P w (Kd.pair d d2) (f :: fs) o (fun y => G y.1 ∧ G2 y.2) := by
  intro fuel cs hf
  obtain ⟨x, hx⟩ := hf f (by simp)
  rw [ho, hs] at hx
  obtain ⟨y, hk, hg⟩ := h _ _ _ hx
  obtain ⟨y2, hk2, hg2⟩ := h2 fuel cs (fun q hq => hf q (List.mem_cons_of_mem _ hq))
  refine ⟨(y, y2), ⟨_, _, ?_, hk, hk2⟩, hg, hg2⟩
  show (cs.drop o).take (d.sz + d2.sz) = _
  rw [List.take_add, List.drop_drop]
theorem opens_sliceL {α : Type} {d : Kd α} {t e : TypeId} {G : α → Prop} (ht : P.underlying t = some (.slice e)) (hs : P.cellsOf e = d.sz) (h : Opens enc P w d e G) :
    Opens enc P w (Kd.slice e d) t (fun xs => xs.length ≤ 9223372036854775807 ∧ ∀ x ∈ xs, G x) := by
  intro fuel cs x hx
  obtain ⟨y, hk, hg⟩ := opens_slice ht hs h fuel cs x hx
  refine ⟨y, hk, ?_, hg⟩
  obtain ⟨A, c, _, _, hC⟩ := hk
  exact hC.2.1
theorem opens_struct {α : Type} {d : Kd α} {t : TypeId} {fs : Array Field} {G : α → Prop} (ht : P.underlying t = some (.struct fs)) (hs : P.cellsOf t = d.sz) (h : Fields enc P w d fs.toList 0 G) : Opens enc P w d t G := by
  intro fuel cs x hx
  obtain ⟨xs, n, _, _, hl, hxl, hf⟩ := DataW.trod_struct ht hx
  obtain ⟨y, hk, hg⟩ := h n cs (fun f hm => by
    obtain ⟨i, hi⟩ := List.getElem?_of_mem hm
    have h1 := hf i f (by simpa using hi)
    have hlt : i < xs.length := by
      rw [hxl]
      rcases Nat.lt_or_ge i fs.size with h3 | h3
      · exact h3
      · rw [List.getElem?_eq_none (by simpa using h3)] at hi; cases hi
    rw [List.getElem?_eq_getElem hlt] at h1
    exact ⟨_, h1⟩)
  rw [List.drop_zero, List.take_of_length_le (by omega)] at hk
  exact ⟨y, hk, hg⟩
theorem opens_iso {α β : Type} {d : Kd α} {t : TypeId} {G : α → Prop} (h : Opens enc P w d t G) (f : β → α) (g : α → β) (hfg : ∀ y, f (g y) = y) : Opens enc P w (Kd.iso d f) t (fun x => G (f x)) := by
  intro fuel cs x hx
  obtain ⟨y, hk, hg⟩ := h _ _ _ hx
  exact ⟨g y, by show d.K w (f (g y)) cs; rw [hfg]; exact hk, by show G (f (g y)); rw [hfg]; exact hg⟩
theorem opens_mono {α : Type} {d : Kd α} {t : TypeId} {G G' : α → Prop} (h : Opens enc P w d t G) (hg : ∀ y, G y → G' y) : Opens enc P w d t G' := by
  intro fuel cs x hx
  obtain ⟨y, hk, hy⟩ := h _ _ _ hx
  exact ⟨y, hk, hg y hy⟩
end
end Go.Proofs.YtibhaklgajkalaaGreatDoor.Opens
