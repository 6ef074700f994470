/- T4 -/
import Derived.Test.YtibhaklgajkalaaGreatDoorYTellx0
namespace Go.Proofs.YtibhaklgajkalaaGreatDoor.YTell
open Go.RowKit Go.Proofs.YtibhaklgajkalaaGreatDoorW.PrintWords Go.Proofs.YtibhaklgajkalaaGreatDoorW.PrintLast Go.Proofs.YtibhaklgajkalaaGreatDoorW.PrintMore
attribute [local go_sem] max2_int min2_int max_two min_two max_three min_three max_four min_four
set_option linter.unusedVariables false
set_option linter.unusedSimpArgs false
/-- A cell that was written over with a number for a number, a truth for a truth; or not at all. -/
def Same (u u' : Value) : Prop := u' = u ∨ (∃ k a b, u = .int k a ∧ u' = .int k b) ∨ (∃ a b, u = .bool a ∧ u' = .bool b)
theorem Same.refl (u : Value) : Same u u := .inl rfl
theorem Same.int (k : IntKind) (a b : Int) : Same (.int k a) (.int k b) := .inr (.inl ⟨k, a, b, rfl, rfl⟩)
theorem Same.bool (a b : Bool) : Same (.bool a) (.bool b) := .inr (.inr ⟨a, b, rfl, rfl⟩)
theorem Same.trans {u v z : Value} (h : Same u v) (k : Same v z) : Same u z := by
  rcases h with rfl | ⟨q, a, b, rfl, rfl⟩ | ⟨a, b, rfl, rfl⟩
  · exact k
  · rcases k with rfl | ⟨q', a', b', h1, rfl⟩ | ⟨a', b', h1, rfl⟩
    · exact .int _ _ _
    · injection h1 with h1 h2; subst h1; exact .int _ _ _
    · cases h1
  · rcases k with rfl | ⟨q', a', b', h1, rfl⟩ | ⟨a', b', h1, rfl⟩
    · exact .bool _ _
    · cases h1
    · exact .bool _ _
theorem Same.of_int {k : IntKind} {a : Int} {u : Value} (h : Same (.int k a) u) : ∃ b, u = .int k b := by
  rcases h with rfl | ⟨q, a', b, h1, rfl⟩ | ⟨a', b, h1, rfl⟩
  · exact ⟨_, rfl⟩
  · injection h1 with h1 h2; subst h1; exact ⟨_, rfl⟩
  · cases h1
theorem Same.of_bool {a : Bool} {u : Value} (h : Same (.bool a) u) : ∃ b, u = .bool b := by
  rcases h with rfl | ⟨q, a', b, h1, rfl⟩ | ⟨a', b, h1, rfl⟩
  · exact ⟨_, rfl⟩
  · cases h1
  · exact ⟨_, rfl⟩
theorem Same.of_slice {A : Option Addr} {n c : Nat} {u : Value} (h : Same (.slice A n c) u) : u = .slice A n c := by
  rcases h with rfl | ⟨q, a', b, h1, rfl⟩ | ⟨a', b, h1, rfl⟩
  · rfl
  · cases h1
  · cases h1
inductive AllSame : List Value → List Value → Prop where
  | nil : AllSame [] []
  | cons {u u' : Value} {l l' : List Value} : Same u u' → AllSame l l' → AllSame (u :: l) (u' :: l')
theorem AllSame.of (f : Nat → Option Value) : ∀ (cs : List Value) (o : Nat), (∀ j u, cs[j]? = some u → ∃ u', f (o + j) = some u' ∧ Same u u') → ∃ cs', AllSame cs cs' ∧ cs'.length = cs.length ∧ ∀ j u, cs'[j]? = some u → f (o + j) = some u
  | [], o, h => ⟨[], .nil, rfl, fun j u hu => by simp at hu⟩
  | c :: cs, o, h => by
    obtain ⟨u', h1, h2⟩ := h 0 c rfl
    obtain ⟨cs', h3, h5, h4⟩ := AllSame.of f cs (o + 1) (fun j u hu => by rw [show o + 1 + j = o + (j + 1) by omega]; exact h (j + 1) u (by simpa using hu))
    refine ⟨u' :: cs', .cons h2 h3, by simp [h5], fun j u hu => ?_⟩
    cases j with
    | zero => simp only [List.getElem?_cons_zero, Option.some.injEq] at hu; subst hu; exact h1
    | succ j => rw [show o + (j + 1) = o + 1 + j by omega]; exact h4 j u (by simpa using hu)
/-- Behind marks: what was below w0 stands; outside P all of w stands; inside P cells hold what they held, or another of the kind. -/
structure Scrib (w0 : World) (P : Nat → Prop) (w W : World) : Prop where
  below : Below w0.heap.size w0 W
  kept : Kept w W P
  cells : ∀ k cur e, P k → w.heap[k]? = some (.cells cur e (0, 0)) → ∃ cur', W.heap[k]? = some (.cells cur' e (0, 0)) ∧ cur'.size = cur.size ∧ ∀ (j : Nat) u, cur[j]? = some u → ∃ u', cur'[j]? = some u' ∧ Same u u'
theorem Scrib.refl {w0 w : World} (P : Nat → Prop) (h : Below w0.heap.size w0 w) : Scrib w0 P w w := ⟨h, Kept.refl _ _, fun _ cur _ _ h => ⟨cur, h, rfl, fun _ u hu => ⟨u, hu, .refl _⟩⟩⟩
theorem Scrib.trans {w0 w W W2 : World} {P : Nat → Prop} (h : Scrib w0 P w W) (k : Scrib w0 P W W2) : Scrib w0 P w W2 :=
  ⟨k.below, h.kept.then_ k.kept (fun _ hk => .inl hk), fun b cur e hP hb => by
    obtain ⟨cur', h1, h2, h3⟩ := h.cells b cur e hP hb
    obtain ⟨cur2, k1, k2, k3⟩ := k.cells b cur' e hP h1
    exact ⟨cur2, k1, k2.trans h2, fun j u hu => by
      obtain ⟨u1, h4, h5⟩ := h3 j u hu
      obtain ⟨u2, k4, k5⟩ := k3 j u1 h4
      exact ⟨u2, k4, h5.trans k5⟩⟩⟩
theorem Scrib.one {w0 W : World} {P : Nat → Prop} (hb : Below w0.heap.size w0 W) {g j : Nat} (hP : P g) (hg : w0.heap.size ≤ g) {u u' : Value} (hc : W.cell? ⟨g, j, none⟩ = some u) (hs : Same u u') : Scrib w0 P W (W.setCell ⟨g, j, none⟩ u') := by
  refine ⟨below_set hb hg, (Kept.refl W P).setCell (p := ⟨g, j, none⟩) (.inl hP) _, fun k cur e _ hk => ?_⟩
  by_cases h : k = g
  · subst h
    rw [blk_cell hk] at hc
    refine ⟨cur.setIfInBounds j u', ?_, by simp, fun i v hv => ?_⟩
    · have hlt := blk_lt hk
      simp only [World.setCell]
      rw [Array.getElem?_modify, if_pos rfl, hk]
      rfl
    · by_cases hi : j = i
      · subst hi
        rw [hc] at hv
        injection hv with hv
        subst hv
        exact ⟨u', by rw [Array.getElem?_setIfInBounds_self_of_lt (by exact (Array.getElem?_eq_some_iff.1 hc).1)], hs⟩
      · exact ⟨v, by rw [Array.getElem?_setIfInBounds_ne (by omega)]; exact hv, .refl _⟩
  · exact ⟨cur, (Below.heap_setCell W ⟨g, j, none⟩ u' k h).trans hk, rfl, fun i v hv => ⟨v, hv, .refl _⟩⟩
theorem Scrib.cell {w0 w W : World} {P : Nat → Prop} (h : Scrib w0 P w W) {g j e : Nat} {cur : Array Value} {u : Value} (hP : P g) (hb : w.heap[g]? = some (.cells cur e (0, 0))) (hc : w.cell? ⟨g, j, none⟩ = some u) : ∃ u', W.cell? ⟨g, j, none⟩ = some u' ∧ Same u u' := by
  obtain ⟨cur', h1, _, h3⟩ := h.cells g cur e hP hb
  rw [blk_cell hb] at hc
  obtain ⟨u', h4, h5⟩ := h3 j u hc
  exact ⟨u', by rw [blk_cell h1]; exact h4, h5⟩
/-- One store more, into a cell that held a number at the start. -/
theorem Scrib.seti {w0 w W : World} {P : Nat → Prop} (h : Scrib w0 P w W) {g j e : Nat} {cur : Array Value} (hP : P g) (hg : w0.heap.size ≤ g) (hb : w.heap[g]? = some (.cells cur e (0, 0))) {k : IntKind} {a : Int} (hc : w.cell? ⟨g, j, none⟩ = some (.int k a)) (b : Int) : Scrib w0 P w (W.setCell ⟨g, j, none⟩ (.int k b)) := by
  obtain ⟨u', h1, h2⟩ := h.cell hP hb hc
  obtain ⟨a', rfl⟩ := h2.of_int
  exact h.trans (Scrib.one h.below hP hg h1 (.int _ _ _))
theorem Scrib.setb {w0 w W : World} {P : Nat → Prop} (h : Scrib w0 P w W) {g j e : Nat} {cur : Array Value} (hP : P g) (hg : w0.heap.size ≤ g) (hb : w.heap[g]? = some (.cells cur e (0, 0))) {a : Bool} (hc : w.cell? ⟨g, j, none⟩ = some (.bool a)) (b : Bool) : Scrib w0 P w (W.setCell ⟨g, j, none⟩ (.bool b)) := by
  obtain ⟨u', h1, h2⟩ := h.cell hP hb hc
  obtain ⟨a', rfl⟩ := h2.of_bool
  exact h.trans (Scrib.one h.below hP hg h1 (.bool _ _))
/-- A row by its shape alone: n elements of sz cells in one block of P; each element's cells meet D. -/
def ShRow {α : Type} (P : Nat → Prop) (e sz : Nat) (D : World → α → List Value → Prop) (w : World) (v : Value) (xs : List α) : Prop :=
  ∃ A c, v = .slice A xs.length c ∧ xs.length ≤ c ∧ (0 < xs.length → ∃ g cur, A = some ⟨g, 0, none⟩ ∧ P g ∧ w.heap[g]? = some (.cells cur e (0, 0)) ∧ ∀ i (h : i < xs.length), ∃ cs, cs.length = sz ∧ D w xs[i] cs ∧ ∀ j u, cs[j]? = some u → cur[i * sz + j]? = some u)
def Stable {α : Type} (P : Nat → Prop) (D : World → α → List Value → Prop) : Prop := ∀ w0 w W x cs cs', Scrib w0 P w W → AllSame cs cs' → D w x cs → D W x cs'
theorem ShRow.scrib {α : Type} {P : Nat → Prop} {e sz : Nat} {D : World → α → List Value → Prop} (hD : Stable P D) {w0 w W : World} (hS : Scrib w0 P w W) {v : Value} {xs : List α} (h : ShRow P e sz D w v xs) : ShRow P e sz D W v xs := by
  obtain ⟨A, c, hv, hc, h⟩ := h
  refine ⟨A, c, hv, hc, fun hl => ?_⟩
  obtain ⟨g, cur, hA, hP, hb, hx⟩ := h hl
  obtain ⟨cur', h1, h2, h3⟩ := hS.cells g cur e hP hb
  refine ⟨g, cur', hA, hP, h1, fun i hi => ?_⟩
  obtain ⟨cs, k1, k2, k3⟩ := hx i hi
  obtain ⟨cs', k4, k5, k6⟩ := AllSame.of (fun j => cur'[j]?) cs (i * sz) (fun j u hu => h3 _ _ (k3 j u hu))
  exact ⟨cs', by omega, hD w0 w W _ _ _ hS k4 k2, k6⟩
theorem ShRow.of_R {α : Type} {d : Kd α} {e : Nat} {w : World} {base : Nat} {ok : Nat → Prop} {P : Nat → Prop} {D : World → α → List Value → Prop} {v : Value} {xs : List α} (h : d.R e w base ok v xs) (hok : ∀ k, ok k → P k)
    (hD : ∀ x cs, d.M w base ok x cs → D w x cs) : ShRow P e d.sz D w v xs := by
  obtain ⟨A, c, hv, hc, _⟩ := Kd.R_reads h
  obtain ⟨h0, inner, ho, hr⟩ := h
  refine ⟨A, c, hv, hc, fun hl => ?_⟩
  rcases ho.2 with ⟨h1, h2⟩ | ⟨g, cap, cur, h1, hg, hb, h2, h3, h4, h5⟩
  · omega
  · rw [hv] at h1
    injection h1 with h1 h6 h7
    subst h1
    refine ⟨g, cur, rfl, hok g (h0 g (by rw [hv]; rfl)), hb, fun i hi => ⟨(inner.drop (i * d.sz)).take d.sz, ?_, hD _ _ (d.M_mono (fun k hk => hk.1) (hr.2 i xs[i] (List.getElem?_eq_getElem hi))), fun j u hu => ?_⟩⟩
    · have := hr.1
      rw [List.length_take, List.length_drop, this]
      have : (i + 1) * d.sz ≤ xs.length * d.sz := Nat.mul_le_mul_right _ hi
      rw [Nat.succ_mul] at this
      omega
    · have hj : j < d.sz := by
        have := (List.getElem?_eq_some_iff.1 hu).1
        rw [List.length_take] at this
        omega
      rw [List.getElem?_take_of_lt hj, List.getElem?_drop, ← h5, List.getElem?_take_of_lt (by
        have : (i + 1) * d.sz ≤ xs.length * d.sz := Nat.mul_le_mul_right _ hi
        rw [Nat.succ_mul] at this
        omega)] at hu
      simpa using hu
theorem ShRow.slice {α : Type} {P : Nat → Prop} {e sz : Nat} {D : World → α → List Value → Prop} {w : World} {v : Value} {xs : List α} (h : ShRow P e sz D w v xs) : ∃ A c, v = .slice A xs.length c := by
  obtain ⟨A, c, hv, _⟩ := h
  exact ⟨A, c, hv⟩
/-- Element i of a row. -/
theorem ShRow.elem {α : Type} {P : Nat → Prop} {e sz : Nat} {D : World → α → List Value → Prop} {w : World} {A : Option Addr} {n c : Nat} {xs : List α} (h : ShRow P e sz D w (.slice A n c) xs) (i : Nat) (hi : i < xs.length) :
    ∃ g cur cs, A = some ⟨g, 0, none⟩ ∧ P g ∧ w.heap[g]? = some (.cells cur e (0, 0)) ∧ cs.length = sz ∧ D w xs[i] cs ∧ (∀ j u, cs[j]? = some u → w.cell? ⟨g, i * sz + j, none⟩ = some u) ∧ ∀ j, w.frozen? ⟨g, j, none⟩ = false := by
  obtain ⟨A', c', hv, _, h⟩ := h
  obtain ⟨g, cur, hA, hP, hb, hx⟩ := h (by omega)
  obtain ⟨cs, h1, h2, h3⟩ := hx i hi
  injection hv with hv _ _
  subst hv
  exact ⟨g, cur, cs, hA, hP, hb, h1, h2, fun j u hu => by rw [blk_cell hb]; exact h3 j u hu, fun j => by simp [World.frozen?, hb]⟩
def ShByte (w : World) (x : Int) (cs : List Value) : Prop := ∃ b, cs = [.int .u8 b]
theorem ShByte.stable (P : Nat → Prop) : Stable P ShByte := by
  rintro w0 w W x cs cs' hS ha ⟨b, rfl⟩
  cases ha with
  | cons h1 h2 =>
    cases h2
    obtain ⟨b', rfl⟩ := h1.of_int
    exact ⟨b', rfl⟩
theorem ShRow.bytes {w : World} {base : Nat} {ok P : Nat → Prop} {v : Value} {xs : List Int} (h : (Kd.int .u8).R 5 w base ok v xs) (hok : ∀ k, ok k → P k) : ShRow P 5 1 ShByte w v xs :=
  ShRow.of_R h hok (fun x cs hx => ⟨x, hx⟩)

end Go.Proofs.YtibhaklgajkalaaGreatDoor.YTell
