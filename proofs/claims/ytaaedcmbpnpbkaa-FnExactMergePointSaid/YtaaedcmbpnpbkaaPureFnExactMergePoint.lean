/- MergePoint: the program's function and the reference's tell the same at all arguments, and the copies that were handed in read as before. Conditions: none beyond the statement's own. -/
import Derived.Test.YtaaedcmbpnpbkaaPFnExactMergePointx2
import Derived.Test.YtaaedcmbpnpbkaaAid
import Derived.Test.YtaaedcmbpnpbkaaSized
namespace Go.Proofs.Ytaaedcmbpnpbkaa.Pure
open Go.RowKit Go.Proofs.Ytaaedcmbpnpbkaa.PFnExactMergePoint Go.Proofs.YtaaedcmbpnpbkaaW.PrintWords Go.Proofs.YtaaedcmbpnpbkaaW.PrintLast
open Go.Proofs.Ytaaedcmbpnpbkaa.Aid

theorem toIntS_l0 (x : List Int) (hx : x.length ≤ 1048576) (d : Nat) : ∀ (k i : Nat) (y : List Int), y.length = x.length → i ≤ x.length → x.length - i = d → d < k → y.take i = x.take i →
    laws_toIntS.l0 k x y (i : Int) = some x := by
  induction d with
  | zero =>
    intro k i y hl hi hd hk ht
    obtain ⟨k, rfl⟩ : ∃ m, k = m + 1 := ⟨k - 1, by omega⟩
    simp only [laws_toIntS.l0]
    rw [if_neg (by omega)]
    rw [List.take_of_length_le (by omega), List.take_of_length_le (by omega)] at ht
    rw [ht]
  | succ d ih =>
    intro k i y hl hi hd hk ht
    obtain ⟨k, rfl⟩ : ∃ m, k = m + 1 := ⟨k - 1, by omega⟩
    simp only [laws_toIntS.l0]
    rw [if_pos (by omega), if_pos (by omega), if_pos (by omega), w64n (by omega)]
    exact ih k (i + 1) _ (by simpa using hl) (by omega) (by omega) (by omega) (set_take x y 0 i (by omega) hl ht)

theorem toIntS_f (x : List Int) (hx : x.length ≤ 1048576) (k : Nat) (hk : 1048576 < k) : laws_toIntS.f k x = some x := by
  unfold laws_toIntS.f
  rw [if_pos (by omega), if_pos (by omega)]
  exact toIntS_l0 x hx x.length k 0 _ (by simp) (by omega) (by omega) (by omega) (by simp)

theorem eqIntS_l0 (x : List Int) (hx : x.length ≤ 1048576) (d : Nat) : ∀ (k i : Nat), i ≤ x.length → x.length - i = d → d < k →
    laws_eqIntS.l0 k x x (i : Int) = some true := by
  induction d with
  | zero =>
    intro k i hi hd hk
    obtain ⟨k, rfl⟩ : ∃ m, k = m + 1 := ⟨k - 1, by omega⟩
    simp only [laws_eqIntS.l0]
    rw [if_neg (by omega)]
  | succ d ih =>
    intro k i hi hd hk
    obtain ⟨k, rfl⟩ : ∃ m, k = m + 1 := ⟨k - 1, by omega⟩
    rw [laws_eqIntS.l0, if_pos (by omega), if_pos (by omega), if_pos (by omega), if_pos rfl, w64n (by omega)]
    exact ih k (i + 1) (by omega) (by omega) (by omega)

theorem eqIntS_f (x : List Int) (hx : x.length ≤ 1048576) (k : Nat) (hk : 1048576 < k) : laws_eqIntS.f k x x = some true := by
  unfold laws_eqIntS.f
  rw [if_pos rfl]
  exact eqIntS_l0 x hx x.length k 0 (by omega) (by omega) (by omega)

theorem merge_l0 (b p : Int) (t n : List Int) (hb0 : 0 ≤ b) (hb : b ≤ 1000000) (hp0 : 0 ≤ p) (hp : p ≤ 1000000) (ht : t.length ≤ 1048576) (hn : n.length ≤ 1048576) (d : Nat) :
    ∀ (k i : Nat), i ≤ n.length → n.length - i = d → d < k →
    ∃ r, spec_MergePoint.l0 k b t p n n (n.length : Int) (i : Int) = some r ∧ impl_MergePoint.l0 k b t p n n (n.length : Int) (i : Int) = some r := by
  induction d with
  | zero =>
    intro k i hi hd hk
    obtain ⟨k, rfl⟩ : ∃ m, k = m + 1 := ⟨k - 1, by omega⟩
    exact ⟨(0, (n.length : Int)), by rw [spec_MergePoint.l0, if_neg (by omega)], by rw [impl_MergePoint.l0, if_neg (by omega)]⟩
  | succ d ih =>
    intro k i hi hd hk
    obtain ⟨k, rfl⟩ : ∃ m, k = m + 1 := ⟨k - 1, by omega⟩
    obtain ⟨r, h1, h2⟩ := ih k (i + 1) (by omega) (by omega) (by omega)
    have e1 : wrap64 ((wrap64 (p + 1)) + (i : Int)) = p + 1 + i := by rw [w64 (x := p + 1) (by omega) (by omega), w64 (by omega) (by omega)]
    have e2 : wrap64 (b + (t.length : Int)) = b + t.length := w64 (by omega) (by omega)
    have e3 : wrap64 ((wrap64 (p + 1 + (i : Int) - b)) - 1) = p + 1 + i - b - 1 := by rw [w64 (x := p + 1 + (i : Int) - b) (by omega) (by omega), w64 (by omega) (by omega)]
    have a1 : (i : Int) < (n.length : Int) := by omega
    have a2 : 0 ≤ (i : Int) := by omega
    have e4 : wrap64 ((i : Int) + 1) = ((i + 1 : Nat) : Int) := w64n (by omega)
    simp only [spec_MergePoint.l0, impl_MergePoint.l0, e1, e2, e3, e4, if_pos a1, if_pos a2]
    by_cases c1 : p + 1 + (i : Int) ≤ b
    · rw [if_pos c1, if_pos c1]; exact ⟨r, h1, h2⟩
    · rw [if_neg c1, if_neg c1]
      by_cases c2 : p + 1 + (i : Int) > b + t.length
      · rw [if_pos c2, if_pos (by omega)]; exact ⟨_, rfl, rfl⟩
      · have a3 : ¬ p + 1 + (i : Int) - b - 1 ≥ (t.length : Int) := by omega
        have a4 : 0 ≤ p + 1 + (i : Int) - b - 1 := by omega
        have a5 : p + 1 + (i : Int) - b - 1 < (t.length : Int) := by omega
        simp only [if_neg c2, if_neg a3, if_pos a4, if_pos a5]
        by_cases c3 : rd t (p + 1 + (i : Int) - b - 1) = rd n (i : Int)
        · rw [if_pos c3, if_pos c3]; exact ⟨r, h1, h2⟩
        · rw [if_neg c3, if_neg c3]; exact ⟨_, rfl, rfl⟩

theorem merge_f (b p : Int) (t n : List Int) (ht : t.length ≤ 1048576) (hn : n.length ≤ 1048576) (k : Nat) (hk : 1048578 < k) :
    ∃ r, spec_MergePoint.f k b t p n = some r ∧ impl_MergePoint.f k b t p n = some r := by
  obtain ⟨k, rfl⟩ : ∃ m, k = m + 1 := ⟨k - 1, by omega⟩
  unfold spec_MergePoint.f impl_MergePoint.f
  by_cases c1 : b < 0
  · rw [if_pos c1, if_pos c1]; simp only [spec_MergePoint.j0, impl_MergePoint.j0, if_true]; exact ⟨_, rfl, rfl⟩
  rw [if_neg c1, if_neg c1]
  by_cases c2 : b > 1000000
  · rw [if_pos c2, if_pos c2]; simp only [spec_MergePoint.j0, impl_MergePoint.j0, if_true]; exact ⟨_, rfl, rfl⟩
  rw [if_neg c2, if_neg c2]
  by_cases c3 : p < 0
  · rw [if_pos c3, if_pos c3]; simp only [spec_MergePoint.j0, impl_MergePoint.j0, if_true]; exact ⟨_, rfl, rfl⟩
  rw [if_neg c3, if_neg c3]
  by_cases c4 : p > 1000000
  · rw [decide_eq_true c4]; simp only [spec_MergePoint.j0, impl_MergePoint.j0, if_true]; exact ⟨_, rfl, rfl⟩
  rw [decide_eq_false c4]
  simp only [spec_MergePoint.j0, impl_MergePoint.j0]
  rw [if_neg (by decide), if_neg (by decide)]
  exact merge_l0 b p t n (by omega) (by omega) (by omega) (by omega) ht hn n.length k 0 (by omega) (by omega) (by omega)

theorem FnExactMergePoint : laws_FnExactMergePoint.Pure := by
  intro b t p n _ _ _ _ _ _ _ _
  refine ⟨1048581, ?_⟩
  have hK : ∃ K, K = 1048580 := ⟨_, rfl⟩
  obtain ⟨K, hK⟩ := hK
  rw [show (1048581 : Nat) = K + 1 by omega]
  unfold laws_FnExactMergePoint.f
  by_cases c1 : (t.length : Int) > 1048576
  · rw [if_pos c1]
  rw [if_neg c1]
  by_cases c2 : (n.length : Int) > 1048576
  · rw [if_pos c2]
  rw [if_neg c2]
  obtain ⟨r, h1, h2⟩ := merge_f b p t n (by omega) (by omega) (K + 1) (by omega)
  rw [toIntS_f t (by omega) (K + 1) (by omega), toIntS_f n (by omega) (K + 1) (by omega)]
  simp only [Option.bind_some]
  rw [h1]
  simp only [Option.bind_some]
  rw [h2]
  simp only [Option.bind_some]
  rw [if_pos trivial, bne_self_eq_false]
  simp only [laws_FnExactMergePoint.j0]
  rw [if_neg (by decide), toIntS_f t (by omega) K (by omega), toIntS_f n (by omega) K (by omega)]
  simp only [Option.bind_some]
  rw [eqIntS_f t (by omega) K (by omega), eqIntS_f n (by omega) K (by omega)]
  simp

end Go.Proofs.Ytaaedcmbpnpbkaa.Pure
