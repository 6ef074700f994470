/- T19 -/
import Derived.Test.YtibhaklgajkalaaGreatDoorYTellx0
import Derived.Test.YtibhaklgajkalaaGreatDoorYTellT6
import Derived.Test.YtibhaklgajkalaaGreatDoorYTellT7
import Derived.Test.YtibhaklgajkalaaGreatDoorYTellT11
namespace Go.Proofs.YtibhaklgajkalaaGreatDoor.YTell
open Go.RowKit Go.Proofs.YtibhaklgajkalaaGreatDoorW.PrintWords Go.Proofs.YtibhaklgajkalaaGreatDoorW.PrintLast Go.Proofs.YtibhaklgajkalaaGreatDoorW.PrintMore
attribute [local go_sem] max2_int min2_int max_two min_two max_three min_three max_four min_four
set_option linter.unusedVariables false
set_option linter.unusedSimpArgs false
open Go.Proofs.YtibhaklgajkalaaGreatDoor.Num
theorem sumTo_all {α : Type} (f : α → Nat) (l : List α) : sumTo f l l.length = (l.map f).sum := by unfold sumTo; rw [List.take_length]
theorem sumTo_mem {α : Type} (f : α → Nat) (l : List α) (x : α) (h : x ∈ l) : f x ≤ sumTo f l l.length := by
  rw [sumTo_all]
  induction l with
  | nil => exact absurd h (by simp)
  | cons y r ih =>
    rw [List.map_cons, List.sum_cons]
    rcases List.mem_cons.1 h with e | e
    · subst e; omega
    · have := ih e; omega
theorem rows_len {α : Type} (f : α → Nat) (l : List α) : l.length ≤ rowsTot f l := by unfold rowsTot; omega
theorem rows_mem {α : Type} (f : α → Nat) (l : List α) (x : α) (h : x ∈ l) : f x ≤ rowsTot f l := by
  have := sumTo_mem f l x h
  unfold rowsTot
  omega
/-- A sum over copies, bound by the originals' lengths and sizes. -/
theorem sum_map_le {α β : Type} (c : α → β) (g : β → Nat) (f : α → Nat) (a b : Nat) (l : List α) (h : ∀ x ∈ l, g (c x) ≤ a + b * f x) (hab : a ≤ b) : sumTo g (l.map c) (l.map c).length ≤ b * rowsTot f l := by
  rw [sumTo_all]
  unfold rowsTot
  rw [sumTo_all]
  induction l with
  | nil => simp
  | cons x r ih =>
    have h1 := h x (by simp)
    have h2 := ih (fun y hy => h y (by simp [hy]))
    simp only [List.map_cons, List.sum_cons, List.length_cons]
    rw [Nat.mul_add] at h2 ⊢
    rw [Nat.mul_add, Nat.mul_add]
    omega
theorem small_of (x : List S83) (h : rowsTot totObs x ≤ 1048576) : x.length ≤ 1048576 ∧ ∀ y ∈ x, ObsSmall y := by
  refine ⟨by have := rows_len totObs x; omega, fun o ho => ?_⟩
  have h1 : o.f2.f2.length + (rowsTot totItem o.f3.f1 + rowsTot totSession o.f3.f2) + o.f4.length + rowsTot totMessage o.f5 ≤ 1048576 := Nat.le_trans (rows_mem totObs x o ho) h
  have e1 := rows_len totItem o.f3.f1
  have e2 := rows_len totSession o.f3.f2
  have e3 := rows_len totMessage o.f5
  refine ⟨show o.f2.f2.length ≤ 1048576 by omega, ⟨⟨by omega, fun y hy => ?_⟩, ⟨by omega, fun y hy => ?_⟩⟩, by omega, ⟨by omega, fun y hy => ?_⟩⟩
  · have h2 : y.f2.length ≤ _ := rows_mem totItem _ y hy
    show y.f2.length ≤ 1048576
    omega
  · have h2 : y.f3.length ≤ _ := rows_mem totSession _ y hy
    show y.f3.length ≤ 1048576
    omega
  · have h2 : rowsTot totEntry y.f8 + y.f9.length ≤ _ := rows_mem totMessage _ y hy
    have e4 := rows_len totEntry y.f8
    refine ⟨⟨by omega, fun z hz => ?_⟩, by omega⟩
    have h3 : z.f1.length ≤ _ := rows_mem totEntry _ z hz
    show z.f1.length ≤ 1048576
    omega
/-- Marks of the copies. -/
theorem mt_of (o : S83) : mtObs (convObs o) ≤ 13 + 16 * totObs o := by
  have h1 := sum_map_le convItem mtItem totItem 2 2 o.f3.f1 (fun y _ => by show 2 + y.f2.length ≤ 2 + 2 * y.f2.length; omega) (Nat.le_refl _)
  have h2 := sum_map_le convSession mtSession totSession 3 3 o.f3.f2 (fun y _ => by show 3 + y.f3.length ≤ 3 + 3 * y.f3.length; omega) (Nat.le_refl _)
  have h3 := sum_map_le convMessage mtMessage totMessage 8 8 o.f5 (fun y _ => by
    have h4 := sum_map_le convEntry mtEntry totEntry 1 1 y.f8 (fun z _ => by show 1 + z.f1.length ≤ 1 + 1 * z.f1.length; omega) (Nat.le_refl _)
    show 8 + sumTo mtEntry (y.f8.map convEntry) (y.f8.map convEntry).length + y.f9.length ≤ 8 + 8 * (rowsTot totEntry y.f8 + y.f9.length)
    omega) (Nat.le_refl _)
  have h5 : sumTo mtAck (o.f4.map convAck) (o.f4.map convAck).length ≤ 5 * o.f4.length := by
    rw [sumTo_all]
    induction o.f4 with
    | nil => simp
    | cons y r ih => simp only [List.map_cons, List.sum_cons, List.length_cons]; have : mtAck (convAck y) = 5 := rfl; omega
  show 13 + o.f2.f2.length + sumTo mtItem (o.f3.f1.map convItem) (o.f3.f1.map convItem).length + sumTo mtSession (o.f3.f2.map convSession) (o.f3.f2.map convSession).length + sumTo mtAck (o.f4.map convAck) (o.f4.map convAck).length + sumTo mtMessage (o.f5.map convMessage) (o.f5.map convMessage).length ≤ 13 + 16 * (o.f2.f2.length + (rowsTot totItem o.f3.f1 + rowsTot totSession o.f3.f2) + o.f4.length + rowsTot totMessage o.f5)
  omega
theorem tot_of (x : List S83) (h : rowsTot totObs x ≤ 1048576) : (1 : Int) + sumTo mtObs (x.map convObs) (x.map convObs).length ≤ 281474976710656 := by
  have h1 := sum_map_le convObs mtObs totObs 13 16 x (fun y _ => mt_of y) (by decide)
  omega
theorem lim_of (c : Int) (x : List S83) (h : x.length ≤ 1048576 ∧ ∀ y ∈ x, ObsSmall y) : ReportLim ⟨c, x.map convObs⟩ := by
  refine ⟨trivial, by show (x.map convObs).length ≤ _; rw [List.length_map]; omega, fun o ho => ?_⟩
  obtain ⟨y, hy, rfl⟩ := List.mem_map.1 ho
  obtain ⟨g1, ⟨⟨g2, g3⟩, g4, g5⟩, g6, g7, g8⟩ := h.2 y hy
  have g1' : y.f2.f2.length ≤ 1048576 := g1
  refine ⟨trivial, Nat.le_trans g1' (by decide), ⟨by show (y.f3.f1.map convItem).length ≤ _; rw [List.length_map]; omega, fun z hz => ?_⟩, ⟨by show (y.f3.f2.map convSession).length ≤ _; rw [List.length_map]; omega, fun z hz => ?_⟩, ⟨by show (y.f4.map convAck).length ≤ _; rw [List.length_map]; omega, fun _ _ => trivial⟩, ⟨by show (y.f5.map convMessage).length ≤ _; rw [List.length_map]; omega, fun z hz => ?_⟩⟩
  · obtain ⟨u, hu, rfl⟩ := List.mem_map.1 hz
    exact ⟨trivial, Nat.le_trans (g3 u hu) (by decide)⟩
  · obtain ⟨u, hu, rfl⟩ := List.mem_map.1 hz
    exact ⟨trivial, Nat.le_trans (g5 u hu) (by decide)⟩
  · obtain ⟨u, hu, rfl⟩ := List.mem_map.1 hz
    obtain ⟨⟨k1, k2⟩, k3⟩ := g8 u hu
    refine ⟨trivial, ⟨by show (u.f8.map convEntry).length ≤ _; rw [List.length_map]; omega, fun t ht => ?_⟩, Nat.le_trans k3 (by decide)⟩
    obtain ⟨r, hr, rfl⟩ := List.mem_map.1 ht
    exact ⟨trivial, Nat.le_trans (k2 r hr) (by decide)⟩
def ItemWf (y : S74) : Prop := IntOk y.f0 ∧ IntOk y.f1 ∧ Bytes y.f2
/-- What the reader of the text knows of an observation's numbers. -/
structure ObsWf (o : S83) : Prop where
  ints : ∀ n ∈ [o.f0, o.f1, o.f6.f0, o.f6.f1, o.f6.f2, o.f6.f3, o.f6.f4, o.f6.f5, o.f6.f6, o.f6.f7], IntOk n
  acks : ∀ a ∈ o.f4, ∀ n ∈ [a.f0, a.f1, a.f2, a.f3, a.f4], IntOk n
  item : ItemWf o.f2
  base : IntOk o.f3.f0
  kept : ∀ y ∈ o.f3.f1, ItemWf y
theorem ok_of (o : S83) (h : ObsSmall o) (hw : ObsWf o) : ObsOk (convObs o) := by
  obtain ⟨g1, ⟨⟨g2, g3⟩, g4, g5⟩, g6, g7, g8⟩ := h
  refine ⟨fun n hn => ?_, fun a ha => ?_, ⟨hw.item.1, hw.item.2.1, hw.item.2.2, g1⟩, hw.base, fun y hy => ?_, ?_, ?_, ?_⟩
  · have e : ints11 (convObs o) = [o.f0, o.f1, o.f6.f0, o.f6.f1, o.f6.f2, o.f6.f3, o.f6.f4, o.f6.f5, o.f6.f6, o.f6.f7] ++ [((o.f5.map convMessage).length : Int)] := rfl
    rw [e] at hn
    rcases List.mem_append.1 hn with h | h
    · exact hw.ints n h
    · rw [List.mem_singleton.1 h, List.length_map]
      unfold IntOk
      omega
  · obtain ⟨b, hb, rfl⟩ := List.mem_map.1 ha
    exact hw.acks b hb
  · obtain ⟨z, hz, rfl⟩ := List.mem_map.1 hy
    have := hw.kept z hz
    exact ⟨this.1, this.2.1, this.2.2, g3 z hz⟩
  · show (o.f4.map convAck).length ≤ _; rw [List.length_map]; exact g6
  · show (o.f5.map convMessage).length ≤ _; rw [List.length_map]; exact g7
  · show (o.f3.f1.map convItem).length ≤ _; rw [List.length_map]; exact g2
/-- A part's length with its separator, summed. -/
def wide (Y : List (List UInt8)) : Nat := (Y.map fun p => p.length + 1).sum
theorem wide_app (a b : List (List UInt8)) : wide (a ++ b) = wide a + wide b := by simp [wide]
theorem wide_join (Y : List (List UInt8)) : (Lib.join Y [32]).length ≤ wide Y := by
  cases Y with
  | nil => simp [Lib.join_nil]
  | cons x r =>
    rw [Lib.join_cons, List.length_append]
    have h : (Lib.joinTail [32] r).length = wide r := by
      unfold Lib.joinTail wide
      induction r with
      | nil => rfl
      | cons y s ih =>
        simp only [List.map_cons, List.flatten_cons, List.length_append, List.sum_cons, List.length_cons, List.length_nil]
        rw [ih]
        omega
    rw [h]
    simp [wide]
theorem wide_map {α : Type} (g : α → List UInt8) (f : α → Nat) (a b : Nat) (l : List α) (h : ∀ x ∈ l, (g x).length + 1 ≤ a + b * f x) : wide (l.map g) ≤ a * l.length + b * (l.map f).sum := by
  induction l with
  | nil => simp [wide]
  | cons x r ih =>
    have h1 := h x (by simp)
    have h2 := ih (fun y hy => h y (by simp [hy]))
    have e : wide ((x :: r).map g) = ((g x).length + 1) + wide (r.map g) := rfl
    rw [e]
    simp only [List.map_cons, List.sum_cons, List.length_cons]
    rw [Nat.mul_add, Nat.mul_add]
    omega
theorem hexD_le (l : List Int) : (hexD l).length ≤ 1 + 2 * l.length := by
  unfold hexD
  split
  · simp
  · rw [hexL]; omega
theorem tellD_le (m : UInt8) (y : S40) (h : ItemOk y) : (tellD [m] y).length + 1 ≤ 50 + 2 * y.f2.length := by
  have h1 := hexD_le y.f2
  have h2 := joinD_length [y.f0, y.f1] (by intro n hn; simp only [List.mem_cons, List.mem_nil_iff, or_false] at hn; rcases hn with rfl | rfl; exact h.1; exact h.2.1)
  unfold tellD
  simp only [List.length_append, List.length_cons, List.length_nil] at h2 ⊢
  omega
theorem itoa_le (n : Int) (h : IntOk n) : (Lib.itoa n).length ≤ 21 := by have := Lib.itoa_length_le n h.1 h.2; omega
theorem line_le (o : S50) (h : ObsOk o) : (lineD o).length ≤ 400 + 200 * (o.f2.f2.length + o.f4.length + rowsTot (fun y : S40 => y.f2.length) o.f3.f1) := by
  have h1 := wide_map Lib.itoa (fun _ => 0) 22 0 (ints11 o) (fun n hn => by have := itoa_le n (h.ints n hn); omega)
  have h2 := wide_map ackD (fun _ => 0) 120 0 o.f4 (fun a ha => by have := joinD_length _ (h.acks a ha); unfold ackD; simp only [List.length_append, List.length_cons, List.length_nil, ackInts] at this ⊢; omega)
  have h3 := wide_map (tellD [107]) (fun y : S40 => y.f2.length) 50 2 o.f3.f1 (fun y hy => tellD_le 107 y (h.kept y hy))
  have h4 := tellD_le 105 o.f2 h.item
  have h5 := itoa_le o.f3.f0 h.base
  have e1 : (ints11 o).length = 11 := rfl
  have e3 : ((o.f3.f1.map fun y : S40 => y.f2.length).sum) = sumTo (fun y : S40 => y.f2.length) o.f3.f1 o.f3.f1.length := (sumTo_all _ _).symm
  have hp : wide (obsParts o) ≤ 390 + 200 * (o.f2.f2.length + o.f4.length + rowsTot (fun y : S40 => y.f2.length) o.f3.f1) := by
    unfold obsParts partsB partsA rowsTot
    rw [wide_app, wide_app, wide_app]
    have a1 : wide (if itemOn o then [tellD [105] o.f2] else []) ≤ 50 + 2 * o.f2.f2.length := by
      split
      · simp only [wide, List.map_cons, List.map_nil, List.sum_cons, List.sum_nil]; omega
      · simp [wide]
    have a2 : wide (if svcOn o then ([115, 58] ++ Lib.itoa o.f3.f0) :: o.f3.f1.map (tellD [107]) else []) ≤ 30 + wide (o.f3.f1.map (tellD [107])) := by
      split
      · have : wide (([115, 58] ++ Lib.itoa o.f3.f0) :: o.f3.f1.map (tellD [107])) = (([115, 58] ++ Lib.itoa o.f3.f0).length + 1) + wide (o.f3.f1.map (tellD [107])) := rfl
        rw [this]; simp only [List.length_append, List.length_cons, List.length_nil]; omega
      · simp [wide]
    rw [e3] at h3
    rw [e1] at h1
    simp only [Nat.zero_mul, Nat.add_zero] at h1 h2
    omega
  have := wide_join (obsParts o)
  unfold lineD
  rw [List.length_append]
  simp only [List.length_cons, List.length_nil]
  omega
theorem room_of (c : Int) (hc : IntOk c) (x : List S83) (h : rowsTot totObs x ≤ 1048576) (hw : ∀ o ∈ x, ObsWf o) : (textD c (x.map convObs)).length ≤ 1099510000000 := by
  have hs := (small_of x h).2
  have h0 : ((x.map convObs).flatMap lineD).length ≤ 400 * rowsTot totObs x := by
    clear h
    unfold rowsTot
    rw [sumTo_all]
    induction x with
    | nil => simp
    | cons o r ih =>
      have h1 := line_le (convObs o) (ok_of o (hs o (by simp)) (hw o (by simp)))
      have h2 := ih (fun y hy => hw y (by simp [hy])) (fun y hy => hs y (by simp [hy]))
      have h3 : rowsTot (fun y : S40 => y.f2.length) (o.f3.f1.map convItem) = rowsTot totItem o.f3.f1 := by
        unfold rowsTot
        rw [sumTo_all, sumTo_all, List.length_map, List.map_map]
        rfl
      have h4 : (convObs o).f2.f2.length + (convObs o).f4.length + rowsTot (fun y : S40 => y.f2.length) (convObs o).f3.f1 ≤ totObs o := by
        have e1 : (convObs o).f2.f2.length = o.f2.f2.length := rfl
        have e2 : (convObs o).f4.length = o.f4.length := List.length_map _
        have e3 : rowsTot (fun y : S40 => y.f2.length) (convObs o).f3.f1 = rowsTot totItem o.f3.f1 := h3
        rw [e1, e2, e3]
        show _ ≤ o.f2.f2.length + (rowsTot totItem o.f3.f1 + rowsTot totSession o.f3.f2) + o.f4.length + rowsTot totMessage o.f5
        omega
      simp only [List.map_cons, List.flatMap_cons, List.length_append, List.sum_cons, List.length_cons] at h2 ⊢
      omega
  have h5 := itoa_le c hc
  unfold textD
  simp only [List.length_append, List.length_cons, List.length_nil]
  omega

end Go.Proofs.YtibhaklgajkalaaGreatDoor.YTell
