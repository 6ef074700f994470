/- T17 -/
import Derived.Test.YtibhaklgajkalaaGreatDoorYTellx0
import Derived.Test.YtibhaklgajkalaaGreatDoorYTellT2
import Derived.Test.YtibhaklgajkalaaGreatDoorNum
namespace Go.Proofs.YtibhaklgajkalaaGreatDoor.YTell
open Go.RowKit Go.Proofs.YtibhaklgajkalaaGreatDoorW.PrintWords Go.Proofs.YtibhaklgajkalaaGreatDoorW.PrintLast Go.Proofs.YtibhaklgajkalaaGreatDoorW.PrintMore
attribute [local go_sem] max2_int min2_int max_two min_two max_three min_three max_four min_four
set_option linter.unusedVariables false
set_option linter.unusedSimpArgs false
open Go.Proofs.YtibhaklgajkalaaGreatDoor.Num
theorem toByteS_l0 (x : List Int) (hx : x.length ≤ 281474976710656) (d : Nat) : ∀ (k i : Nat) (y : List Int), y.length = x.length → i ≤ x.length → x.length - i = d → d < k → y.take i = x.take i →
    laws_toByteS.l0 k x y (i : Int) = some x := by
  induction d with
  | zero =>
    intro k i y hl hi hd hk ht
    obtain ⟨k, rfl⟩ : ∃ m, k = m + 1 := ⟨k - 1, by omega⟩
    rw [laws_toByteS.l0, if_neg (by omega)]
    rw [List.take_of_length_le (by omega), List.take_of_length_le (by omega)] at ht
    rw [ht]
  | succ d ih =>
    intro k i y hl hi hd hk ht
    obtain ⟨k, rfl⟩ : ∃ m, k = m + 1 := ⟨k - 1, by omega⟩
    rw [laws_toByteS.l0, if_pos (by omega), if_pos (by omega), if_pos (by omega), w64n (by omega)]
    exact ih k (i + 1) _ (by simpa using hl) (by omega) (by omega) (by omega) (set_take x y 0 i (by omega) hl ht)
theorem toByteS_ev (x : List Int) (hx : x.length ≤ 281474976710656) : Ev (fun k => laws_toByteS.f k x) x := ev_of x.length (fun k hk => by
  unfold laws_toByteS.f
  rw [if_pos (by omega), if_pos (by omega)]
  exact toByteS_l0 x hx x.length k 0 _ (by simp) (by omega) (by omega) (by omega) (by simp))

theorem eqByteS_l0 (x : List Int) (hx : x.length ≤ 281474976710656) (d : Nat) : ∀ (k i : Nat), i ≤ x.length → x.length - i = d → d < k →
    laws_eqByteS.l0 k x x (i : Int) = some true := by
  induction d with
  | zero =>
    intro k i hi hd hk
    obtain ⟨k, rfl⟩ : ∃ m, k = m + 1 := ⟨k - 1, by omega⟩
    rw [laws_eqByteS.l0, if_neg (by omega)]
  | succ d ih =>
    intro k i hi hd hk
    obtain ⟨k, rfl⟩ : ∃ m, k = m + 1 := ⟨k - 1, by omega⟩
    rw [laws_eqByteS.l0, if_pos (by omega), if_pos (by omega), if_pos (by omega), if_pos rfl, w64n (by omega)]
    exact ih k (i + 1) (by omega) (by omega) (by omega)
theorem eqByteS_ev (x : List Int) (hx : x.length ≤ 281474976710656) : Ev (fun k => laws_eqByteS.f k x x) true := ev_of x.length (fun k hk => by
  unfold laws_eqByteS.f
  rw [if_pos rfl]
  exact eqByteS_l0 x hx x.length k 0 (by omega) (by omega) (by omega))

theorem markByteS_l0 (a : Int) (ha0 : 0 ≤ a) (n : Nat) (hn : n ≤ 281474976710656) (ha : a ≤ 281474976710656) (d : Nat) : ∀ (k i : Nat) (y : List Int), y.length = n → i ≤ n → n - i = d → d < k → (∀ j : Nat, j < i → rd y (j : Int) = (a + j) % 256) →
    ∃ z, laws_markByteS.l0 k y (a + i) (i : Int) = some (a + n, z) ∧ z.length = n ∧ Marked a z := by
  induction d with
  | zero =>
    intro k i y hl hi hd hk ht
    obtain ⟨k, rfl⟩ : ∃ m, k = m + 1 := ⟨k - 1, by omega⟩
    obtain rfl : i = n := by omega
    exact ⟨y, by rw [laws_markByteS.l0, if_neg (by omega)], hl, fun j hj => ht j (by omega)⟩
  | succ d ih =>
    intro k i y hl hi hd hk ht
    obtain ⟨k, rfl⟩ : ∃ m, k = m + 1 := ⟨k - 1, by omega⟩
    rw [laws_markByteS.l0, if_pos (by omega), if_pos (by omega), w64n (by omega), w64 (x := a + (i : Int) + 1) (by omega) (by omega), show a + (i : Int) + 1 = a + ((i + 1 : Nat) : Int) by omega]
    refine ih k (i + 1) _ (by simpa using hl) (by omega) (by omega) (by omega) (fun j hj => ?_)
    by_cases e : j = i
    · subst e
      rw [rd_get _ _ (by simp; omega)]
      simp
    · have h := ht j (by omega)
      rw [rd_get _ _ (by omega)] at h
      rw [rd_get _ _ (by simp; omega), List.getElem_set_ne (by simp; omega), h]
theorem markByteS_ev (a : Int) (ha0 : 0 ≤ a) (ha : a ≤ 281474976710656) (x : List Int) (hx : x.length ≤ 281474976710656) : ∃ z, Ev (fun k => laws_markByteS.f k x a) (a + x.length, z) ∧ z.length = x.length ∧ Marked a z := by
  obtain ⟨z, h, hl, hm⟩ := markByteS_l0 a ha0 x.length hx ha x.length (x.length + 1) 0 x rfl (by omega) (by omega) (by omega) (fun j hj => by omega)
  refine ⟨z, ⟨x.length + 1, fun k hk => ?_⟩, hl, hm⟩
  have e := at_rounds (g := fun k => laws_markByteS.f k x a) (fun k => laws_markByteS.mono x a k) hk (r := (a + x.length, z)) (by
    simp only [laws_markByteS.f]
    simpa using h)
  exact e

theorem heldByteS_l0 (a : Int) (ha0 : 0 ≤ a) (x : List Int) (hn : x.length ≤ 281474976710656) (ha : a ≤ 281474976710656) (hm : Marked a x) (d : Nat) : ∀ (k i : Nat), i ≤ x.length → x.length - i = d → d < k →
    laws_heldByteS.l0 k x (a + i) (i : Int) = some (a + x.length) := by
  induction d with
  | zero =>
    intro k i hi hd hk
    obtain ⟨k, rfl⟩ : ∃ m, k = m + 1 := ⟨k - 1, by omega⟩
    rw [laws_heldByteS.l0, if_neg (by omega), show i = x.length by omega]
  | succ d ih =>
    intro k i hi hd hk
    obtain ⟨k, rfl⟩ : ∃ m, k = m + 1 := ⟨k - 1, by omega⟩
    rw [laws_heldByteS.l0, if_pos (by omega), if_pos (by omega), if_pos (hm i (by omega)), w64n (by omega), w64 (x := a + (i : Int) + 1) (by omega) (by omega), show a + (i : Int) + 1 = a + ((i + 1 : Nat) : Int) by omega]
    exact ih k (i + 1) (by omega) (by omega) (by omega)
theorem heldByteS_ev (a : Int) (ha0 : 0 ≤ a) (ha : a ≤ 281474976710656) (x : List Int) (hx : x.length ≤ 281474976710656) (hm : Marked a x) : Ev (fun k => laws_heldByteS.f k x a) (a + x.length) := ev_of x.length (fun k hk => by
  unfold laws_heldByteS.f
  simpa using heldByteS_l0 a ha0 x hx ha hm x.length k 0 (by omega) (by omega) (by omega))

end Go.Proofs.YtibhaklgajkalaaGreatDoor.YTell
