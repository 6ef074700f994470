/- EncodeItem: the program's function and the reference's tell the same at all arguments; arguments are not written; the answer owns its memory. Conditions: none beyond the statement's own. -/
import Derived.Test.YtladodfapnigfaaXFnExactEncodeItemx3
import Derived.Test.YtladodfapnigfaaNum
namespace Go.Proofs.Ytladodfapnigfaa.Pure
open Go.RowKit Go.Proofs.Ytladodfapnigfaa.XFnExactEncodeItem Go.Proofs.YtladodfapnigfaaW.PrintWords Go.Proofs.YtladodfapnigfaaW.PrintLast Go.Proofs.Ytladodfapnigfaa.Num

theorem toByteS_l0 (x : List Int) (hx : x.length ≤ 281474976710656) (d : Nat) : ∀ (k i : Nat) (y : List Int), y.length = x.length → i ≤ x.length → x.length - i = d → d < k → y.take i = x.take i →
    laws_toByteS.l0 k x y (i : Int) = some x := by
  induction d with
  | zero =>
    intro k i y hl hi hd hk ht
    obtain ⟨k, rfl⟩ : ∃ m, k = m + 1 := ⟨k - 1, by omega⟩
    rw [laws_toByteS.l0, if_neg (by omega)]
    rw [List.take_of_length_le (by omega), List.take_of_length_le (by omega)] at ht
    rw [ht]
  | succ d ih =>
    intro k i y hl hi hd hk ht
    obtain ⟨k, rfl⟩ : ∃ m, k = m + 1 := ⟨k - 1, by omega⟩
    rw [laws_toByteS.l0, if_pos (by omega), if_pos (by omega), if_pos (by omega), w64n (by omega)]
    exact ih k (i + 1) _ (by simpa using hl) (by omega) (by omega) (by omega) (set_take x y 0 i (by omega) hl ht)
theorem toByteS_ev (x : List Int) (hx : x.length ≤ 281474976710656) : Ev (fun k => laws_toByteS.f k x) x := ev_of x.length (fun k hk => by
  unfold laws_toByteS.f
  rw [if_pos (by omega), if_pos (by omega)]
  exact toByteS_l0 x hx x.length k 0 _ (by simp) (by omega) (by omega) (by omega) (by simp))

theorem eqByteS_l0 (x : List Int) (hx : x.length ≤ 281474976710656) (d : Nat) : ∀ (k i : Nat), i ≤ x.length → x.length - i = d → d < k →
    laws_eqByteS.l0 k x x (i : Int) = some true := by
  induction d with
  | zero =>
    intro k i hi hd hk
    obtain ⟨k, rfl⟩ : ∃ m, k = m + 1 := ⟨k - 1, by omega⟩
    rw [laws_eqByteS.l0, if_neg (by omega)]
  | succ d ih =>
    intro k i hi hd hk
    obtain ⟨k, rfl⟩ : ∃ m, k = m + 1 := ⟨k - 1, by omega⟩
    rw [laws_eqByteS.l0, if_pos (by omega), if_pos (by omega), if_pos (by omega), if_pos rfl, w64n (by omega)]
    exact ih k (i + 1) (by omega) (by omega) (by omega)
theorem eqByteS_ev (x : List Int) (hx : x.length ≤ 281474976710656) : Ev (fun k => laws_eqByteS.f k x x) true := ev_of x.length (fun k hk => by
  unfold laws_eqByteS.f
  rw [if_pos rfl]
  exact eqByteS_l0 x hx x.length k 0 (by omega) (by omega) (by omega))

theorem markByteS_l0 (a : Int) (ha0 : 0 ≤ a) (n : Nat) (hn : n ≤ 281474976710656) (ha : a ≤ 281474976710656) (d : Nat) : ∀ (k i : Nat) (y : List Int), y.length = n → i ≤ n → n - i = d → d < k → (∀ j : Nat, j < i → rd y (j : Int) = (a + j) % 256) →
    ∃ z, laws_markByteS.l0 k y (a + i) (i : Int) = some (a + n, z) ∧ z.length = n ∧ Marked a z := by
  induction d with
  | zero =>
    intro k i y hl hi hd hk ht
    obtain ⟨k, rfl⟩ : ∃ m, k = m + 1 := ⟨k - 1, by omega⟩
    obtain rfl : i = n := by omega
    exact ⟨y, by rw [laws_markByteS.l0, if_neg (by omega)], hl, fun j hj => ht j (by omega)⟩
  | succ d ih =>
    intro k i y hl hi hd hk ht
    obtain ⟨k, rfl⟩ : ∃ m, k = m + 1 := ⟨k - 1, by omega⟩
    rw [laws_markByteS.l0, if_pos (by omega), if_pos (by omega), w64n (by omega), w64 (x := a + (i : Int) + 1) (by omega) (by omega), show a + (i : Int) + 1 = a + ((i + 1 : Nat) : Int) by omega]
    refine ih k (i + 1) _ (by simpa using hl) (by omega) (by omega) (by omega) (fun j hj => ?_)
    by_cases e : j = i
    · subst e
      rw [rd_get _ _ (by simp; omega)]
      simp
    · have h := ht j (by omega)
      rw [rd_get _ _ (by omega)] at h
      rw [rd_get _ _ (by simp; omega), List.getElem_set_ne (by simp; omega), h]
theorem markByteS_ev (a : Int) (ha0 : 0 ≤ a) (ha : a ≤ 281474976710656) (x : List Int) (hx : x.length ≤ 281474976710656) : ∃ z, Ev (fun k => laws_markByteS.f k x a) (a + x.length, z) ∧ z.length = x.length ∧ Marked a z := by
  obtain ⟨z, h, hl, hm⟩ := markByteS_l0 a ha0 x.length hx ha x.length (x.length + 1) 0 x rfl (by omega) (by omega) (by omega) (fun j hj => by omega)
  refine ⟨z, ⟨x.length + 1, fun k hk => ?_⟩, hl, hm⟩
  have e := at_rounds (g := fun k => laws_markByteS.f k x a) (fun k => laws_markByteS.mono x a k) hk (r := (a + x.length, z)) (by
    simp only [laws_markByteS.f]
    simpa using h)
  exact e

theorem heldByteS_l0 (a : Int) (ha0 : 0 ≤ a) (x : List Int) (hn : x.length ≤ 281474976710656) (ha : a ≤ 281474976710656) (hm : Marked a x) (d : Nat) : ∀ (k i : Nat), i ≤ x.length → x.length - i = d → d < k →
    laws_heldByteS.l0 k x (a + i) (i : Int) = some (a + x.length) := by
  induction d with
  | zero =>
    intro k i hi hd hk
    obtain ⟨k, rfl⟩ : ∃ m, k = m + 1 := ⟨k - 1, by omega⟩
    rw [laws_heldByteS.l0, if_neg (by omega), show i = x.length by omega]
  | succ d ih =>
    intro k i hi hd hk
    obtain ⟨k, rfl⟩ : ∃ m, k = m + 1 := ⟨k - 1, by omega⟩
    rw [laws_heldByteS.l0, if_pos (by omega), if_pos (by omega), if_pos (hm i (by omega)), w64n (by omega), w64 (x := a + (i : Int) + 1) (by omega) (by omega), show a + (i : Int) + 1 = a + ((i + 1 : Nat) : Int) by omega]
    exact ih k (i + 1) (by omega) (by omega) (by omega)
theorem heldByteS_ev (a : Int) (ha0 : 0 ≤ a) (ha : a ≤ 281474976710656) (x : List Int) (hx : x.length ≤ 281474976710656) (hm : Marked a x) : Ev (fun k => laws_heldByteS.f k x a) (a + x.length) := ev_of x.length (fun k hk => by
  unfold laws_heldByteS.f
  simpa using heldByteS_l0 a ha0 x hx ha hm x.length k 0 (by omega) (by omega) (by omega))

theorem littleOf_length (v : Int) (n : Nat) : (littleOf v n).length = n := by simp [littleOf]
theorem littleOf_succ (v : Int) (n : Nat) : littleOf v (n + 1) = littleOf v n ++ [v / 2 ^ (8 * n) % 256] := by
  simp [littleOf, List.range_succ]
theorem div_step (v : Int) (n : Nat) : v / 2 ^ (8 * n) / 256 = v / 2 ^ (8 * (n + 1)) := by
  rw [Int.ediv_ediv_of_nonneg (Int.pow_nonneg (by omega)), show (256 : Int) = 2 ^ 8 by decide, ← Int.pow_add, show 8 * (n + 1) = 8 * n + 8 by omega]
theorem div_nonneg (v : Int) (h : 0 ≤ v) (n : Nat) : 0 ≤ v / 2 ^ (8 * n) := Int.ediv_nonneg h (Int.pow_nonneg (by omega))
theorem div_le (v : Int) (h : 0 ≤ v) (n : Nat) : v / 2 ^ (8 * n) ≤ v := Int.ediv_le_self _ h
theorem l2Put_l0 (v : Int) (hv : 0 ≤ v) (hv' : v ≤ 9223372036854775807) (n : Nat) (hn : n ≤ 8) (d : Nat) : ∀ (k i : Nat), i ≤ n → n - i = d → d < k →
    spec_l2Put.l0 k (v / 2 ^ (8 * i)) (n : Int) (littleOf v i) (i : Int) = some (littleOf v n) := by
  induction d with
  | zero =>
    intro k i hi hd hk
    obtain ⟨k, rfl⟩ : ∃ m, k = m + 1 := ⟨k - 1, by omega⟩
    rw [spec_l2Put.l0, if_neg (by omega), show i = n by omega]
  | succ d ih =>
    intro k i hi hd hk
    obtain ⟨k, rfl⟩ : ∃ m, k = m + 1 := ⟨k - 1, by omega⟩
    have h0 := div_nonneg v hv i
    have h1 := div_le v hv i
    have h2 := div_nonneg v hv (i + 1)
    have h3 := div_le v hv (i + 1)
    rw [spec_l2Put.l0, if_pos (by omega), if_pos (by rw [littleOf_length]; omega), w64n (by omega), Int.tdiv_eq_ediv_of_nonneg h0, div_step, w64 (by omega) (by omega), Int.tmod_eq_emod_of_nonneg h0, Int.emod_emod_of_dvd _ (Int.dvd_refl _), ← littleOf_succ]
    exact ih k (i + 1) (by omega) (by omega) (by omega)
theorem l2Put_ev (v : Int) (hv : 0 ≤ v) (hv' : v ≤ 9223372036854775807) (n : Nat) (hn : n ≤ 8) : Ev (fun k => spec_l2Put.f k v (n : Int)) (littleOf v n) := ev_of n (fun k hk => by
  unfold spec_l2Put.f
  have h := l2Put_l0 v hv hv' n hn n k 0 (by omega) (by omega) (by omega)
  simpa [littleOf] using h)
theorem little_some (v : Int) (hv : 0 ≤ v) (n : Nat) (h1 : 1 ≤ n) (hn : n ≤ 8) : impl_little.f v (n : Int) = some (littleOf v n) := by
  unfold impl_little.f
  rw [if_pos ⟨hv, by omega, by omega⟩, Int.toNat_natCast]

theorem valid_same (a b : Int) (l : List Int) : impl_Item_valid.f a b l = spec_l5Item.f a b l := rfl
theorem l5Item_eq (a b : Int) (l : List Int) : spec_l5Item.f a b l = some (decide (1 ≤ a ∧ a ≤ 50 ∧ 1 ≤ b ∧ b ≤ 1000000000 ∧ l.length ≤ 64)) := by
  unfold spec_l5Item.f
  by_cases h1 : a ≥ 1
  · by_cases h2 : a ≤ 50
    · by_cases h3 : b ≥ 1
      · by_cases h4 : b ≤ 1000000000
        · rw [if_pos h1, if_pos h2, if_pos h3, if_pos h4]
          congr 1
          exact decide_eq_decide.2 (by omega)
        · rw [if_pos h1, if_pos h2, if_pos h3, if_neg h4, decide_eq_false (by omega)]
      · rw [if_pos h1, if_pos h2, if_neg h3, decide_eq_false (by omega)]
    · rw [if_pos h1, if_neg h2, decide_eq_false (by omega)]
  · rw [if_neg h1, decide_eq_false (by omega)]

/-- Both encoders tell the same. -/
theorem encode_ev (a b : Int) (l : List Int) (hl : l.length ≤ 1048576) : ∃ z c, Ev (fun k => spec_EncodeItem.f k a b l) (z, c) ∧ impl_EncodeItem.f a b l = some (z, c) ∧ z.length ≤ 2097152 := by
  unfold spec_EncodeItem.f impl_EncodeItem.f
  simp only [valid_same, l5Item_eq, Option.bind_some]
  by_cases g : 1 ≤ a ∧ a ≤ 50 ∧ 1 ≤ b ∧ b ≤ 1000000000 ∧ l.length ≤ 64
  · obtain ⟨h1, h2, h3, h4, h5⟩ := g
    have e1 : (littleOf a 4).length = 4 := littleOf_length _ _
    have e2 : (littleOf b 4).length = 4 := littleOf_length _ _
    simp only [decide_eq_true (show 1 ≤ a ∧ a ≤ 50 ∧ 1 ≤ b ∧ b ≤ 1000000000 ∧ l.length ≤ 64 from ⟨h1, h2, h3, h4, h5⟩), if_true]
    refine ⟨littleOf a 4 ++ littleOf b 4 ++ l, 0, ?_, ?_, by simp [e1, e2]; omega⟩
    · refine Ev.bind (l2Put_ev a (by omega) (by omega) 4 (by omega)) (Ev.bind (l2Put_ev b (by omega) (by omega) 4 (by omega)) ?_)
      simp only [e1, e2, if_pos (show 4 + 4 < 140737488355328 by omega), List.length_append, if_pos (show 4 + 4 + l.length < 140737488355328 by omega)]
      exact Ev.now _
    · have f1 := little_some a (by omega) 4 (by omega) (by omega)
      have f2 := little_some b (by omega) 4 (by omega) (by omega)
      rw [wu64 (x := a) (by omega) (by omega), wu64 (x := b) (by omega) (by omega)]
      have f1' : impl_little.f a 4 = some (littleOf a 4) := f1
      have f2' : impl_little.f b 4 = some (littleOf b 4) := f2
      rw [f1', Option.bind_some, f2', Option.bind_some]
      unfold slices_Concat_byte_byte.f
      have e3 : [littleOf a 4, littleOf b 4, l].flatten = littleOf a 4 ++ littleOf b 4 ++ l := by simp
      rw [e3, if_pos (by simp only [List.length_append, e1, e2]; omega), Option.bind_some]
  · simp only [decide_eq_false g, Bool.false_eq_true, if_false]
    exact ⟨[], 5, Ev.now _, rfl, by simp⟩

theorem eqItem_ev (x y : Int) (z : List Int) (hz : z.length ≤ 1048576) : Ev (fun k => laws_eqItem.f k x y z x y z) true := by
  unfold laws_eqItem.f
  simp only [if_true]
  refine Ev.bind (eqByteS_ev z (by omega)) ?_
  simp only [if_true]
  exact Ev.now _
theorem toItem_ev (x y : Int) (z : List Int) (hz : z.length ≤ 1048576) : Ev (fun k => laws_toItem.f k x y z) (x, y, z) := by
  unfold laws_toItem.f
  exact Ev.bind (toByteS_ev z (by omega)) (Ev.now _)

theorem FnExactEncodeItem (a : Int) (_ : (Lit.int .i64 a).wf = true) (b : Int) (_ : (Lit.int .i64 b).wf = true) (l : List Int) (hl : l.length ≤ 9223372036854775807) (_ : ∀ x ∈ l, (Lit.int .u8 x).wf = true) :
    ∃ k, laws_FnExactEncodeItem.f k a b l = some true := by
  apply Ev.rounds
  unfold laws_FnExactEncodeItem.f laws_szItem.f laws_szByteS.f
  simp only [w64 (x := 1048576 - (l.length : Int)) (by omega) (by omega)]
  by_cases c : (1048576 : Int) - (l.length : Int) < 0
  · simp only [if_pos c, Option.bind_some, if_pos (show (-1 : Int) < 0 by omega)]
    exact Ev.now _
  simp only [if_neg c, Option.bind_some]
  obtain ⟨z, e, hs, hi, hz⟩ := encode_ev a b l (by omega)
  have hi' : Ev (fun _ : Nat => impl_EncodeItem.f a b l) (z, e) := by rw [hi]; exact Ev.now _
  refine Ev.bind (toItem_ev a b l (by omega)) (Ev.bind hs (Ev.bind (toItem_ev a b l (by omega)) ?_))
  simp only [hi, Option.bind_some]
  refine Ev.bind (eqByteS_ev z (by omega)) ?_
  simp only [if_true, bne_self_eq_false]
  refine Ev.step (fun k => by rw [laws_FnExactEncodeItem.j0]) ?_
  simp only [Bool.false_eq_true, if_false]
  refine Ev.bind (toItem_ev a b l (by omega)) (Ev.bind (eqItem_ev a b l (by omega)) ?_)
  simp only [if_true]
  obtain ⟨b2, hm, _, _⟩ := markByteS_ev 1 (by omega) (by omega) l (by omega)
  refine Ev.bind (a := (1 + (l.length : Int), b2)) (by unfold laws_markItem.f; exact Ev.bind hm (Ev.now _)) ?_
  simp only [if_neg (show ¬ (1 + (l.length : Int) < 0) by omega)]
  refine Ev.bind (eqByteS_ev z (by omega)) ?_
  simp only [if_true, bne_self_eq_false]
  refine Ev.step (fun k => by rw [laws_FnExactEncodeItem.j1]) ?_
  simp only [Bool.false_eq_true, if_false]
  obtain ⟨z2, hm2, hl2, hM⟩ := markByteS_ev 1 (by omega) (by omega) z (by omega)
  have hh := heldByteS_ev 1 (by omega) (by omega) z2 (by omega) hM
  rw [hl2] at hh
  refine Ev.bind hm2 (Ev.bind hh ?_)
  simp only [if_neg (show ¬ (1 + (z.length : Int) < 0) by omega), if_true]
  refine Ev.bind (toItem_ev a b l (by omega)) ?_
  simp only [hi, Option.bind_some]
  refine Ev.bind (eqByteS_ev z (by omega)) ?_
  simp only [if_true]
  exact Ev.now _

end Go.Proofs.Ytladodfapnigfaa.Pure
