/- DecodeItem: the program's function and the reference's tell the same at all arguments; arguments are not written; the answer owns its memory. Conditions: none beyond the statement's own. -/
import Derived.Test.YtladodfapnigfaaXFnExactDecodeItemx6
import Derived.Test.YtladodfapnigfaaNum
namespace Go.Proofs.Ytladodfapnigfaa.Pure
open Go.RowKit Go.Proofs.Ytladodfapnigfaa.XFnExactDecodeItem Go.Proofs.YtladodfapnigfaaW.PrintWords Go.Proofs.YtladodfapnigfaaW.PrintLast Go.Proofs.Ytladodfapnigfaa.Num

theorem toByteS_l0 (x : List Int) (hx : x.length ≤ 281474976710656) (d : Nat) : ∀ (k i : Nat) (y : List Int), y.length = x.length → i ≤ x.length → x.length - i = d → d < k → y.take i = x.take i →
    laws_toByteS.l0 k x y (i : Int) = some x := by
  induction d with
  | zero =>
    intro k i y hl hi hd hk ht
    obtain ⟨k, rfl⟩ : ∃ m, k = m + 1 := ⟨k - 1, by omega⟩
    rw [laws_toByteS.l0, if_neg (by omega)]
    rw [List.take_of_length_le (by omega), List.take_of_length_le (by omega)] at ht
    rw [ht]
  | succ d ih =>
    intro k i y hl hi hd hk ht
    obtain ⟨k, rfl⟩ : ∃ m, k = m + 1 := ⟨k - 1, by omega⟩
    rw [laws_toByteS.l0, if_pos (by omega), if_pos (by omega), if_pos (by omega), w64n (by omega)]
    exact ih k (i + 1) _ (by simpa using hl) (by omega) (by omega) (by omega) (set_take x y 0 i (by omega) hl ht)
theorem toByteS_ev (x : List Int) (hx : x.length ≤ 281474976710656) : Ev (fun k => laws_toByteS.f k x) x := ev_of x.length (fun k hk => by
  unfold laws_toByteS.f
  rw [if_pos (by omega), if_pos (by omega)]
  exact toByteS_l0 x hx x.length k 0 _ (by simp) (by omega) (by omega) (by omega) (by simp))

theorem eqByteS_l0 (x : List Int) (hx : x.length ≤ 281474976710656) (d : Nat) : ∀ (k i : Nat), i ≤ x.length → x.length - i = d → d < k →
    laws_eqByteS.l0 k x x (i : Int) = some true := by
  induction d with
  | zero =>
    intro k i hi hd hk
    obtain ⟨k, rfl⟩ : ∃ m, k = m + 1 := ⟨k - 1, by omega⟩
    rw [laws_eqByteS.l0, if_neg (by omega)]
  | succ d ih =>
    intro k i hi hd hk
    obtain ⟨k, rfl⟩ : ∃ m, k = m + 1 := ⟨k - 1, by omega⟩
    rw [laws_eqByteS.l0, if_pos (by omega), if_pos (by omega), if_pos (by omega), if_pos rfl, w64n (by omega)]
    exact ih k (i + 1) (by omega) (by omega) (by omega)
theorem eqByteS_ev (x : List Int) (hx : x.length ≤ 281474976710656) : Ev (fun k => laws_eqByteS.f k x x) true := ev_of x.length (fun k hk => by
  unfold laws_eqByteS.f
  rw [if_pos rfl]
  exact eqByteS_l0 x hx x.length k 0 (by omega) (by omega) (by omega))

theorem markByteS_l0 (a : Int) (ha0 : 0 ≤ a) (n : Nat) (hn : n ≤ 281474976710656) (ha : a ≤ 281474976710656) (d : Nat) : ∀ (k i : Nat) (y : List Int), y.length = n → i ≤ n → n - i = d → d < k → (∀ j : Nat, j < i → rd y (j : Int) = (a + j) % 256) →
    ∃ z, laws_markByteS.l0 k y (a + i) (i : Int) = some (a + n, z) ∧ z.length = n ∧ Marked a z := by
  induction d with
  | zero =>
    intro k i y hl hi hd hk ht
    obtain ⟨k, rfl⟩ : ∃ m, k = m + 1 := ⟨k - 1, by omega⟩
    obtain rfl : i = n := by omega
    exact ⟨y, by rw [laws_markByteS.l0, if_neg (by omega)], hl, fun j hj => ht j (by omega)⟩
  | succ d ih =>
    intro k i y hl hi hd hk ht
    obtain ⟨k, rfl⟩ : ∃ m, k = m + 1 := ⟨k - 1, by omega⟩
    rw [laws_markByteS.l0, if_pos (by omega), if_pos (by omega), w64n (by omega), w64 (x := a + (i : Int) + 1) (by omega) (by omega), show a + (i : Int) + 1 = a + ((i + 1 : Nat) : Int) by omega]
    refine ih k (i + 1) _ (by simpa using hl) (by omega) (by omega) (by omega) (fun j hj => ?_)
    by_cases e : j = i
    · subst e
      rw [rd_get _ _ (by simp; omega)]
      simp
    · have h := ht j (by omega)
      rw [rd_get _ _ (by omega)] at h
      rw [rd_get _ _ (by simp; omega), List.getElem_set_ne (by simp; omega), h]
theorem markByteS_ev (a : Int) (ha0 : 0 ≤ a) (ha : a ≤ 281474976710656) (x : List Int) (hx : x.length ≤ 281474976710656) : ∃ z, Ev (fun k => laws_markByteS.f k x a) (a + x.length, z) ∧ z.length = x.length ∧ Marked a z := by
  obtain ⟨z, h, hl, hm⟩ := markByteS_l0 a ha0 x.length hx ha x.length (x.length + 1) 0 x rfl (by omega) (by omega) (by omega) (fun j hj => by omega)
  refine ⟨z, ⟨x.length + 1, fun k hk => ?_⟩, hl, hm⟩
  have e := at_rounds (g := fun k => laws_markByteS.f k x a) (fun k => laws_markByteS.mono x a k) hk (r := (a + x.length, z)) (by
    simp only [laws_markByteS.f]
    simpa using h)
  exact e

theorem heldByteS_l0 (a : Int) (ha0 : 0 ≤ a) (x : List Int) (hn : x.length ≤ 281474976710656) (ha : a ≤ 281474976710656) (hm : Marked a x) (d : Nat) : ∀ (k i : Nat), i ≤ x.length → x.length - i = d → d < k →
    laws_heldByteS.l0 k x (a + i) (i : Int) = some (a + x.length) := by
  induction d with
  | zero =>
    intro k i hi hd hk
    obtain ⟨k, rfl⟩ : ∃ m, k = m + 1 := ⟨k - 1, by omega⟩
    rw [laws_heldByteS.l0, if_neg (by omega), show i = x.length by omega]
  | succ d ih =>
    intro k i hi hd hk
    obtain ⟨k, rfl⟩ : ∃ m, k = m + 1 := ⟨k - 1, by omega⟩
    rw [laws_heldByteS.l0, if_pos (by omega), if_pos (by omega), if_pos (hm i (by omega)), w64n (by omega), w64 (x := a + (i : Int) + 1) (by omega) (by omega), show a + (i : Int) + 1 = a + ((i + 1 : Nat) : Int) by omega]
    exact ih k (i + 1) (by omega) (by omega) (by omega)
theorem heldByteS_ev (a : Int) (ha0 : 0 ≤ a) (ha : a ≤ 281474976710656) (x : List Int) (hx : x.length ≤ 281474976710656) (hm : Marked a x) : Ev (fun k => laws_heldByteS.f k x a) (a + x.length) := ev_of x.length (fun k hk => by
  unfold laws_heldByteS.f
  simpa using heldByteS_l0 a ha0 x hx ha hm x.length k 0 (by omega) (by omega) (by omega))

theorem unlittle_l0 (x : List Int) (hb : Bytes x) (hx : x.length ≤ 8) : ∀ (j k : Nat), j ≤ x.length → j < k →
    impl_unlittle.l0 k x (val (x.drop j)) ((j : Int) - 1) = some (val x) := by
  intro j
  induction j with
  | zero =>
    intro k hj hk
    obtain ⟨k, rfl⟩ : ∃ m, k = m + 1 := ⟨k - 1, by omega⟩
    rw [impl_unlittle.l0, if_neg (by omega), List.drop_zero]
  | succ j ih =>
    intro k hj hk
    obtain ⟨k, rfl⟩ : ∃ m, k = m + 1 := ⟨k - 1, by omega⟩
    have hr := val_le (hb.drop (j + 1)) (n := 7) (by simp; omega)
    have hg := hb.get j (by omega)
    rw [show ((j + 1 : Nat) : Int) - 1 = (j : Int) by omega, impl_unlittle.l0, if_pos (by omega), if_pos (by omega), if_pos (by omega), rd_get x j (by omega), or_byte _ _ hr.1 (by have := hr.2; omega) hg.1 hg.2, ← val_drop x j (by omega), w64 (by omega) (by omega)]
    exact ih k (by omega) (by omega)
theorem unlittle_ev (x : List Int) (hb : Bytes x) (hx : x.length ≤ 8) : Ev (fun k => impl_unlittle.f k x) (val x) := ev_of x.length (fun k hk => by
  unfold impl_unlittle.f
  have h := unlittle_l0 x hb hx x.length k (Nat.le_refl _) hk
  rw [List.drop_of_length_le (Nat.le_refl _)] at h
  rw [w64 (by omega) (by omega)]
  exact h)

/-- What the reference reads of at most eight bytes. -/
def seen (x : List Int) : Int := if 18014398509481984 ≤ val (x.drop 1) then 4611686018427387904 else val x
theorem seen_small (x : List Int) (hb : Bytes x) (hx : x.length ≤ 7) : seen x = val x := by
  have hr := val_le (hb.drop 1) (n := 6) (by simp; omega)
  unfold seen
  rw [if_neg (by have := hr.2; omega)]
theorem l2Get_l0 (x : List Int) (hb : Bytes x) (hx : x.length ≤ 8) : ∀ (j k : Nat), j ≤ x.length → j < k → 0 < x.length → (j = 0 → val (x.drop 1) < 18014398509481984) →
    spec_l2Get.l0 k x (val (x.drop j)) ((j : Int) - 1) = some (seen x) := by
  intro j
  induction j with
  | zero =>
    intro k hj hk hp h0
    obtain ⟨k, rfl⟩ : ∃ m, k = m + 1 := ⟨k - 1, by omega⟩
    rw [spec_l2Get.l0, if_neg (by omega), List.drop_zero]
    unfold seen
    rw [if_neg (by have := h0 rfl; omega)]
  | succ j ih =>
    intro k hj hk hp h0
    obtain ⟨k, rfl⟩ : ∃ m, k = m + 1 := ⟨k - 1, by omega⟩
    have hr := val_le (hb.drop (j + 1)) (n := 7) (by simp; omega)
    have hg := hb.get j (by omega)
    rw [show ((j + 1 : Nat) : Int) - 1 = (j : Int) by omega, spec_l2Get.l0, if_pos (by omega)]
    by_cases c : val (x.drop (j + 1)) ≥ 18014398509481984
    · rw [if_pos c]
      have hj0 : j = 0 := by
        rcases Nat.eq_zero_or_pos j with h | h
        · exact h
        · have := val_le (hb.drop (j + 1)) (n := 6) (by simp; omega)
          have := this.2
          omega
      subst hj0
      unfold seen
      rw [if_pos c]
    · have h7 := hr.2
      rw [if_neg c, if_pos (by omega), if_pos (by omega), rd_get x j (by omega), w64 (x := val (x.drop (j + 1)) * 256) (by omega) (by omega), w64 (x := x[j]) (by omega) (by omega), w64 (by omega) (by omega), w64 (by omega) (by omega), Int.add_comm, Int.mul_comm, ← val_drop x j (by omega)]
      exact ih k (by omega) (by omega) hp (fun e => by subst e; simp only [Nat.zero_add] at c; omega)
theorem l2Get_ev (x : List Int) (hb : Bytes x) (hx : x.length ≤ 8) (hp : 0 < x.length) : Ev (fun k => spec_l2Get.f k x) (seen x) := ev_of x.length (fun k hk => by
  unfold spec_l2Get.f
  have h := l2Get_l0 x hb hx x.length k (Nat.le_refl _) hk hp (fun e => by omega)
  rw [List.drop_of_length_le (Nat.le_refl _)] at h
  rw [w64 (by omega) (by omega)]
  exact h)

theorem valid_same (a b : Int) (l : List Int) : impl_Item_valid.f a b l = spec_l5Item.f a b l := rfl
theorem l5Item_some (a b : Int) (l : List Int) : ∃ t, spec_l5Item.f a b l = some t := by
  unfold spec_l5Item.f
  split
  · split
    · split
      · split
        · exact ⟨_, rfl⟩
        · exact ⟨_, rfl⟩
      · exact ⟨_, rfl⟩
    · exact ⟨_, rfl⟩
  · exact ⟨_, rfl⟩

/-- Both decoders tell the same. -/
theorem decode_ev (b : List Int) (hb : Bytes b) (hl : b.length ≤ 1048576) : ∃ x y z c, Ev (fun k => spec_DecodeItem.f k b) (x, y, z, c) ∧ Ev (fun k => impl_DecodeItem.f k b) (x, y, z, c) ∧ z.length ≤ 1048576 := by
  unfold spec_DecodeItem.f impl_DecodeItem.f
  by_cases c : (b.length : Int) < 8
  · simp only [if_pos c]
    exact ⟨_, _, _, _, Ev.now _, Ev.now _, by simp⟩
  · have h1 : (b.take 4).length = 4 := by simp; omega
    have h2 : ((b.take 8).drop 4).length = 4 := by simp; omega
    have b1 := hb.take 4
    have b2 := (hb.take 8).drop 4
    have g4 : 4 ≤ (b.length : Int) := by omega
    have g8 : 8 ≤ (b.length : Int) := by omega
    have r1 := val_le b1 (n := 4) (by omega)
    have r2 := val_le b2 (n := 4) (by omega)
    have hd : (b.drop 8).length < 140737488355328 := by simp; omega
    have hd' : (b.drop 8).length ≤ 1048576 := by simp; omega
    obtain ⟨t, ht⟩ := l5Item_some (val (b.take 4)) (val ((b.take 8).drop 4)) (b.drop 8)
    have s1 := l2Get_ev _ b1 (by omega) (by omega)
    have s2 := l2Get_ev _ b2 (by omega) (by omega)
    rw [seen_small _ b1 (by omega)] at s1
    rw [seen_small _ b2 (by omega)] at s2
    simp only [if_neg c, if_pos g4, if_pos g8, Option.bind_some, List.length_nil, Nat.zero_add, if_pos hd, List.nil_append, slices_Clone_byte_byte.f]
    have p1 := r1.2
    have p2 := r2.2
    cases t with
    | true =>
      refine ⟨val (b.take 4), val ((b.take 8).drop 4), b.drop 8, 0, ?_, ?_, hd'⟩
      · refine Ev.bind s1 (Ev.bind s2 ?_)
        simp only [ht, Option.bind_some, if_true]
        exact Ev.now _
      · refine Ev.bind (unlittle_ev _ b1 (by omega)) (Ev.bind (unlittle_ev _ b2 (by omega)) ?_)
        simp only [valid_same, w64 (x := val (b.take 4)) (by omega) (by omega), w64 (x := val ((b.take 8).drop 4)) (by omega) (by omega), ht, Option.bind_some, if_true]
        exact Ev.now _
    | false =>
      refine ⟨0, 0, [], 5, ?_, ?_, by simp⟩
      · refine Ev.bind s1 (Ev.bind s2 ?_)
        simp only [ht, Option.bind_some, Bool.false_eq_true, if_false]
        exact Ev.now _
      · refine Ev.bind (unlittle_ev _ b1 (by omega)) (Ev.bind (unlittle_ev _ b2 (by omega)) ?_)
        simp only [valid_same, w64 (x := val (b.take 4)) (by omega) (by omega), w64 (x := val ((b.take 8).drop 4)) (by omega) (by omega), ht, Option.bind_some, Bool.false_eq_true, if_false]
        exact Ev.now _

theorem eqItem_ev (x y : Int) (z : List Int) (hz : z.length ≤ 1048576) : Ev (fun k => laws_eqItem.f k x y z x y z) true := by
  unfold laws_eqItem.f
  simp only [if_true]
  refine Ev.bind (eqByteS_ev z (by omega)) ?_
  simp only [if_true]
  exact Ev.now _

theorem FnExactDecodeItem : laws_FnExactDecodeItem.Pure := by
  intro b _ _ hw
  apply Ev.rounds
  unfold laws_FnExactDecodeItem.f
  by_cases c : (b.length : Int) > 1048576
  · simp only [if_pos c]
    exact Ev.now _
  simp only [if_neg c]
  have hb := bytes_of hw
  obtain ⟨x, y, z, e, hs, hi, hz⟩ := decode_ev b hb (by omega)
  refine Ev.bind (toByteS_ev b (by omega)) (Ev.bind hs (Ev.bind (toByteS_ev b (by omega)) (Ev.bind hi (Ev.bind (eqItem_ev x y z hz) ?_))))
  simp only [if_true, bne_self_eq_false]
  refine Ev.step (fun k => by rw [laws_FnExactDecodeItem.j0]) ?_
  simp only [Bool.false_eq_true, if_false]
  refine Ev.bind (toByteS_ev b (by omega)) (Ev.bind (eqByteS_ev b (by omega)) ?_)
  simp only [if_true]
  obtain ⟨b2, hm, _, _⟩ := markByteS_ev 1 (by omega) (by omega) b (by omega)
  refine Ev.bind hm ?_
  simp only [if_neg (show ¬ (1 + (b.length : Int) < 0) by omega)]
  refine Ev.bind (eqItem_ev x y z hz) ?_
  simp only [if_true, bne_self_eq_false]
  refine Ev.step (fun k => by rw [laws_FnExactDecodeItem.j1]) ?_
  simp only [Bool.false_eq_true, if_false]
  obtain ⟨z2, hm2, hl2, hM⟩ := markByteS_ev 1 (by omega) (by omega) z (by omega)
  refine Ev.bind (a := (1 + (z.length : Int), z2)) ?_ ?_
  · unfold laws_markItem.f
    exact Ev.bind hm2 (Ev.now _)
  refine Ev.bind (a := 1 + (z.length : Int)) ?_ ?_
  · unfold laws_heldItem.f
    have hh := heldByteS_ev 1 (by omega) (by omega) z2 (by omega) hM
    rw [hl2] at hh
    refine Ev.bind hh ?_
    simp only [if_neg (show ¬ (1 + (z.length : Int) < 0) by omega)]
    exact Ev.now _
  simp only [if_neg (show ¬ (1 + (z.length : Int) < 0) by omega), if_true]
  refine Ev.bind (toByteS_ev b (by omega)) (Ev.bind hi (Ev.bind (eqItem_ev x y z hz) ?_))
  simp only [if_true]
  exact Ev.now _

end Go.Proofs.Ytladodfapnigfaa.Pure
