/- FnExactDecodeState: for every list of bytes the law's call answers true. Conditions: none beyond the statement's own. -/
import Derived.Test.YtladodfapnigfaaXFnExactDecodeStatex11
import Derived.Test.YtladodfapnigfaaNum
import Derived.Lib.Bytes
namespace Go.Proofs.Ytladodfapnigfaa.Pure
open Go.RowKit Go.Proofs.Ytladodfapnigfaa.XFnExactDecodeState Go.Proofs.YtladodfapnigfaaW.PrintWords Go.Proofs.YtladodfapnigfaaW.PrintLast Go.Proofs.Ytladodfapnigfaa.Num

theorem toByteS_l0 (x : List Int) (hx : x.length ≤ 281474976710656) (d : Nat) : ∀ (k i : Nat) (y : List Int), y.length = x.length → i ≤ x.length → x.length - i = d → d < k → y.take i = x.take i →
    laws_toByteS.l0 k x y (i : Int) = some x := by
  induction d with
  | zero =>
    intro k i y hl hi hd hk ht
    obtain ⟨k, rfl⟩ : ∃ m, k = m + 1 := ⟨k - 1, by omega⟩
    rw [laws_toByteS.l0, if_neg (by omega)]
    rw [List.take_of_length_le (by omega), List.take_of_length_le (by omega)] at ht
    rw [ht]
  | succ d ih =>
    intro k i y hl hi hd hk ht
    obtain ⟨k, rfl⟩ : ∃ m, k = m + 1 := ⟨k - 1, by omega⟩
    rw [laws_toByteS.l0, if_pos (by omega), if_pos (by omega), if_pos (by omega), w64n (by omega)]
    exact ih k (i + 1) _ (by simpa using hl) (by omega) (by omega) (by omega) (set_take x y 0 i (by omega) hl ht)
theorem toByteS_ev (x : List Int) (hx : x.length ≤ 281474976710656) : Ev (fun k => laws_toByteS.f k x) x := ev_of x.length (fun k hk => by
  unfold laws_toByteS.f
  rw [if_pos (by omega), if_pos (by omega)]
  exact toByteS_l0 x hx x.length k 0 _ (by simp) (by omega) (by omega) (by omega) (by simp))

theorem eqByteS_l0 (x : List Int) (hx : x.length ≤ 281474976710656) (d : Nat) : ∀ (k i : Nat), i ≤ x.length → x.length - i = d → d < k →
    laws_eqByteS.l0 k x x (i : Int) = some true := by
  induction d with
  | zero =>
    intro k i hi hd hk
    obtain ⟨k, rfl⟩ : ∃ m, k = m + 1 := ⟨k - 1, by omega⟩
    rw [laws_eqByteS.l0, if_neg (by omega)]
  | succ d ih =>
    intro k i hi hd hk
    obtain ⟨k, rfl⟩ : ∃ m, k = m + 1 := ⟨k - 1, by omega⟩
    rw [laws_eqByteS.l0, if_pos (by omega), if_pos (by omega), if_pos (by omega), if_pos rfl, w64n (by omega)]
    exact ih k (i + 1) (by omega) (by omega) (by omega)
theorem eqByteS_ev (x : List Int) (hx : x.length ≤ 281474976710656) : Ev (fun k => laws_eqByteS.f k x x) true := ev_of x.length (fun k hk => by
  unfold laws_eqByteS.f
  rw [if_pos rfl]
  exact eqByteS_l0 x hx x.length k 0 (by omega) (by omega) (by omega))

theorem markByteS_l0 (a : Int) (ha0 : 0 ≤ a) (n : Nat) (hn : n ≤ 281474976710656) (ha : a ≤ 281474976710656) (d : Nat) : ∀ (k i : Nat) (y : List Int), y.length = n → i ≤ n → n - i = d → d < k → (∀ j : Nat, j < i → rd y (j : Int) = (a + j) % 256) →
    ∃ z, laws_markByteS.l0 k y (a + i) (i : Int) = some (a + n, z) ∧ z.length = n ∧ Marked a z := by
  induction d with
  | zero =>
    intro k i y hl hi hd hk ht
    obtain ⟨k, rfl⟩ : ∃ m, k = m + 1 := ⟨k - 1, by omega⟩
    obtain rfl : i = n := by omega
    exact ⟨y, by rw [laws_markByteS.l0, if_neg (by omega)], hl, fun j hj => ht j (by omega)⟩
  | succ d ih =>
    intro k i y hl hi hd hk ht
    obtain ⟨k, rfl⟩ : ∃ m, k = m + 1 := ⟨k - 1, by omega⟩
    rw [laws_markByteS.l0, if_pos (by omega), if_pos (by omega), w64n (by omega), w64 (x := a + (i : Int) + 1) (by omega) (by omega), show a + (i : Int) + 1 = a + ((i + 1 : Nat) : Int) by omega]
    refine ih k (i + 1) _ (by simpa using hl) (by omega) (by omega) (by omega) (fun j hj => ?_)
    by_cases e : j = i
    · subst e
      rw [rd_get _ _ (by simp; omega)]
      simp
    · have h := ht j (by omega)
      rw [rd_get _ _ (by omega)] at h
      rw [rd_get _ _ (by simp; omega), List.getElem_set_ne (by simp; omega), h]
theorem markByteS_ev (a : Int) (ha0 : 0 ≤ a) (ha : a ≤ 281474976710656) (x : List Int) (hx : x.length ≤ 281474976710656) : ∃ z, Ev (fun k => laws_markByteS.f k x a) (a + x.length, z) ∧ z.length = x.length ∧ Marked a z := by
  obtain ⟨z, h, hl, hm⟩ := markByteS_l0 a ha0 x.length hx ha x.length (x.length + 1) 0 x rfl (by omega) (by omega) (by omega) (fun j hj => by omega)
  refine ⟨z, ⟨x.length + 1, fun k hk => ?_⟩, hl, hm⟩
  have e := at_rounds (g := fun k => laws_markByteS.f k x a) (fun k => laws_markByteS.mono x a k) hk (r := (a + x.length, z)) (by
    simp only [laws_markByteS.f]
    simpa using h)
  exact e

theorem heldByteS_l0 (a : Int) (ha0 : 0 ≤ a) (x : List Int) (hn : x.length ≤ 281474976710656) (ha : a ≤ 281474976710656) (hm : Marked a x) (d : Nat) : ∀ (k i : Nat), i ≤ x.length → x.length - i = d → d < k →
    laws_heldByteS.l0 k x (a + i) (i : Int) = some (a + x.length) := by
  induction d with
  | zero =>
    intro k i hi hd hk
    obtain ⟨k, rfl⟩ : ∃ m, k = m + 1 := ⟨k - 1, by omega⟩
    rw [laws_heldByteS.l0, if_neg (by omega), show i = x.length by omega]
  | succ d ih =>
    intro k i hi hd hk
    obtain ⟨k, rfl⟩ : ∃ m, k = m + 1 := ⟨k - 1, by omega⟩
    rw [laws_heldByteS.l0, if_pos (by omega), if_pos (by omega), if_pos (hm i (by omega)), w64n (by omega), w64 (x := a + (i : Int) + 1) (by omega) (by omega), show a + (i : Int) + 1 = a + ((i + 1 : Nat) : Int) by omega]
    exact ih k (i + 1) (by omega) (by omega) (by omega)
theorem heldByteS_ev (a : Int) (ha0 : 0 ≤ a) (ha : a ≤ 281474976710656) (x : List Int) (hx : x.length ≤ 281474976710656) (hm : Marked a x) : Ev (fun k => laws_heldByteS.f k x a) (a + x.length) := ev_of x.length (fun k hk => by
  unfold laws_heldByteS.f
  simpa using heldByteS_l0 a ha0 x hx ha hm x.length k 0 (by omega) (by omega) (by omega))

theorem unlittle_l0 (x : List Int) (hb : Bytes x) (hx : x.length ≤ 8) : ∀ (j k : Nat), j ≤ x.length → j < k →
    impl_unlittle.l0 k x (val (x.drop j)) ((j : Int) - 1) = some (val x) := by
  intro j
  induction j with
  | zero =>
    intro k hj hk
    obtain ⟨k, rfl⟩ : ∃ m, k = m + 1 := ⟨k - 1, by omega⟩
    rw [impl_unlittle.l0, if_neg (by omega), List.drop_zero]
  | succ j ih =>
    intro k hj hk
    obtain ⟨k, rfl⟩ : ∃ m, k = m + 1 := ⟨k - 1, by omega⟩
    have hr := val_le (hb.drop (j + 1)) (n := 7) (by simp; omega)
    have hg := hb.get j (by omega)
    rw [show ((j + 1 : Nat) : Int) - 1 = (j : Int) by omega, impl_unlittle.l0, if_pos (by omega), if_pos (by omega), if_pos (by omega), rd_get x j (by omega), or_byte _ _ hr.1 (by have := hr.2; omega) hg.1 hg.2, ← val_drop x j (by omega), w64 (by omega) (by omega)]
    exact ih k (by omega) (by omega)
theorem unlittle_ev (x : List Int) (hb : Bytes x) (hx : x.length ≤ 8) : Ev (fun k => impl_unlittle.f k x) (val x) := ev_of x.length (fun k hk => by
  unfold impl_unlittle.f
  have h := unlittle_l0 x hb hx x.length k (Nat.le_refl _) hk
  rw [List.drop_of_length_le (Nat.le_refl _)] at h
  rw [w64 (by omega) (by omega)]
  exact h)

/-- What the reference reads of at most eight bytes. -/
def seen (x : List Int) : Int := if 18014398509481984 ≤ val (x.drop 1) then 4611686018427387904 else val x
theorem seen_small (x : List Int) (hb : Bytes x) (hx : x.length ≤ 7) : seen x = val x := by
  have hr := val_le (hb.drop 1) (n := 6) (by simp; omega)
  unfold seen
  rw [if_neg (by have := hr.2; omega)]
theorem l2Get_l0 (x : List Int) (hb : Bytes x) (hx : x.length ≤ 8) : ∀ (j k : Nat), j ≤ x.length → j < k → 0 < x.length → (j = 0 → val (x.drop 1) < 18014398509481984) →
    spec_l2Get.l0 k x (val (x.drop j)) ((j : Int) - 1) = some (seen x) := by
  intro j
  induction j with
  | zero =>
    intro k hj hk hp h0
    obtain ⟨k, rfl⟩ : ∃ m, k = m + 1 := ⟨k - 1, by omega⟩
    rw [spec_l2Get.l0, if_neg (by omega), List.drop_zero]
    unfold seen
    rw [if_neg (by have := h0 rfl; omega)]
  | succ j ih =>
    intro k hj hk hp h0
    obtain ⟨k, rfl⟩ : ∃ m, k = m + 1 := ⟨k - 1, by omega⟩
    have hr := val_le (hb.drop (j + 1)) (n := 7) (by simp; omega)
    have hg := hb.get j (by omega)
    rw [show ((j + 1 : Nat) : Int) - 1 = (j : Int) by omega, spec_l2Get.l0, if_pos (by omega)]
    by_cases c : val (x.drop (j + 1)) ≥ 18014398509481984
    · rw [if_pos c]
      have hj0 : j = 0 := by
        rcases Nat.eq_zero_or_pos j with h | h
        · exact h
        · have := val_le (hb.drop (j + 1)) (n := 6) (by simp; omega)
          have := this.2
          omega
      subst hj0
      unfold seen
      rw [if_pos c]
    · have h7 := hr.2
      rw [if_neg c, if_pos (by omega), if_pos (by omega), rd_get x j (by omega), w64 (x := val (x.drop (j + 1)) * 256) (by omega) (by omega), w64 (x := x[j]) (by omega) (by omega), w64 (by omega) (by omega), w64 (by omega) (by omega), Int.add_comm, Int.mul_comm, ← val_drop x j (by omega)]
      exact ih k (by omega) (by omega) hp (fun e => by subst e; simp only [Nat.zero_add] at c; omega)
theorem l2Get_ev (x : List Int) (hb : Bytes x) (hx : x.length ≤ 8) (hp : 0 < x.length) : Ev (fun k => spec_l2Get.f k x) (seen x) := ev_of x.length (fun k hk => by
  unfold spec_l2Get.f
  have h := l2Get_l0 x hb hx x.length k (Nat.le_refl _) hk hp (fun e => by omega)
  rw [List.drop_of_length_le (Nat.le_refl _)] at h
  rw [w64 (by omega) (by omega)]
  exact h)

def littleOf (v : Int) (n : Nat) : List Int := (List.range n).map fun i => v / 2 ^ (8 * i) % 256
theorem littleOf_length (v : Int) (n : Nat) : (littleOf v n).length = n := by simp [littleOf]
theorem littleOf_succ (v : Int) (n : Nat) : littleOf v (n + 1) = littleOf v n ++ [v / 2 ^ (8 * n) % 256] := by
  simp [littleOf, List.range_succ]
theorem div_step (v : Int) (n : Nat) : v / 2 ^ (8 * n) / 256 = v / 2 ^ (8 * (n + 1)) := by
  rw [Int.ediv_ediv_of_nonneg (Int.pow_nonneg (by omega)), show (256 : Int) = 2 ^ 8 by decide, ← Int.pow_add, show 8 * (n + 1) = 8 * n + 8 by omega]
theorem div_nonneg (v : Int) (h : 0 ≤ v) (n : Nat) : 0 ≤ v / 2 ^ (8 * n) := Int.ediv_nonneg h (Int.pow_nonneg (by omega))
theorem div_le (v : Int) (h : 0 ≤ v) (n : Nat) : v / 2 ^ (8 * n) ≤ v := Int.ediv_le_self _ h
theorem l2Put_l0 (v : Int) (hv : 0 ≤ v) (hv' : v ≤ 9223372036854775807) (n : Nat) (hn : n ≤ 8) (d : Nat) : ∀ (k i : Nat), i ≤ n → n - i = d → d < k →
    spec_l2Put.l0 k (v / 2 ^ (8 * i)) (n : Int) (littleOf v i) (i : Int) = some (littleOf v n) := by
  induction d with
  | zero =>
    intro k i hi hd hk
    obtain ⟨k, rfl⟩ : ∃ m, k = m + 1 := ⟨k - 1, by omega⟩
    rw [spec_l2Put.l0, if_neg (by omega), show i = n by omega]
  | succ d ih =>
    intro k i hi hd hk
    obtain ⟨k, rfl⟩ : ∃ m, k = m + 1 := ⟨k - 1, by omega⟩
    have h0 := div_nonneg v hv i
    have h1 := div_le v hv i
    have h2 := div_nonneg v hv (i + 1)
    have h3 := div_le v hv (i + 1)
    rw [spec_l2Put.l0, if_pos (by omega), if_pos (by rw [littleOf_length]; omega), w64n (by omega), Int.tdiv_eq_ediv_of_nonneg h0, div_step, w64 (by omega) (by omega), Int.tmod_eq_emod_of_nonneg h0, Int.emod_emod_of_dvd _ (Int.dvd_refl _), ← littleOf_succ]
    exact ih k (i + 1) (by omega) (by omega) (by omega)
theorem l2Put_ev (v : Int) (hv : 0 ≤ v) (hv' : v ≤ 9223372036854775807) (n : Nat) (hn : n ≤ 8) : Ev (fun k => spec_l2Put.f k v (n : Int)) (littleOf v n) := ev_of n (fun k hk => by
  unfold spec_l2Put.f
  have h := l2Put_l0 v hv hv' n hn n k 0 (by omega) (by omega) (by omega)
  simpa [littleOf] using h)

/-! ### what makes a service valid, as both sides ask it -/
def ItemOk (a b : Int) (n : Nat) : Prop := 1 ≤ a ∧ a ≤ 50 ∧ 1 ≤ b ∧ b ≤ 1000000000 ∧ n ≤ 64
def SessOk (cnt : Int) (ss : List S74) (j : Nat) : Prop :=
  ItemOk (rd_T74 ss j).f0 (rd_T74 ss j).f1 (rd_T74 ss j).f3.length ∧ 0 ≤ (rd_T74 ss j).f2 ∧ (rd_T74 ss j).f2 < cnt ∧ (0 < j → (rd_T74 ss ((j - 1 : Nat) : Int)).f0 < (rd_T74 ss j).f0)
def ItemsOk (ks : List S24) (i : Nat) : Prop := ∀ j : Nat, i ≤ j → j < ks.length → ItemOk (rd_T24 ks j).f0 (rd_T24 ks j).f1 (rd_T24 ks j).f2.length
def SesssOk (cnt : Int) (ss : List S74) (i : Nat) : Prop := ∀ j : Nat, i ≤ j → j < ss.length → SessOk cnt ss j
def SvcOk (a : Int) (ks : List S24) (ss : List S74) : Prop := (0 ≤ a ∧ a ≤ 1000000 ∧ ks.length ≤ 1000000) ∧ ItemsOk ks 0 ∧ SesssOk (a + ks.length) ss 0
theorem l5Item_iff (a b : Int) (l : List Int) : ∃ t, spec_l5Item.f a b l = some t ∧ (t = true ↔ ItemOk a b l.length) := by
  unfold spec_l5Item.f ItemOk
  by_cases h1 : a ≥ 1
  · by_cases h2 : a ≤ 50
    · by_cases h3 : b ≥ 1
      · by_cases h4 : b ≤ 1000000000
        · rw [if_pos h1, if_pos h2, if_pos h3, if_pos h4]
          exact ⟨_, rfl, by rw [decide_eq_true_iff]; omega⟩
        · rw [if_pos h1, if_pos h2, if_pos h3, if_neg h4]
          exact ⟨_, rfl, by simp; omega⟩
      · rw [if_pos h1, if_pos h2, if_neg h3]
        exact ⟨_, rfl, by simp; omega⟩
    · rw [if_pos h1, if_neg h2]
      exact ⟨_, rfl, by simp; omega⟩
  · rw [if_neg h1]
    exact ⟨_, rfl, by simp; omega⟩
theorem item_valid_same (a b : Int) (l : List Int) : impl_Item_valid.f a b l = spec_l5Item.f a b l := rfl
theorem ItemsOk.end_ {ks : List S24} {i : Nat} (h : ks.length ≤ i) : ItemsOk ks i := fun j h1 h2 => by omega
theorem SesssOk.end_ {cnt : Int} {ss : List S74} {i : Nat} (h : ss.length ≤ i) : SesssOk cnt ss i := fun j h1 h2 => by omega
theorem ItemsOk.step {ks : List S24} {i : Nat} (hi : i < ks.length) : ItemsOk ks i ↔ ItemOk (rd_T24 ks i).f0 (rd_T24 ks i).f1 (rd_T24 ks i).f2.length ∧ ItemsOk ks (i + 1) := by
  constructor
  · intro h
    exact ⟨h i (Nat.le_refl _) hi, fun j h1 h2 => h j (by omega) h2⟩
  · rintro ⟨h1, h2⟩ j h3 h4
    by_cases e : j = i
    · rw [e]; exact h1
    · exact h2 j (by omega) h4
theorem SesssOk.step {cnt : Int} {ss : List S74} {i : Nat} (hi : i < ss.length) : SesssOk cnt ss i ↔ SessOk cnt ss i ∧ SesssOk cnt ss (i + 1) := by
  constructor
  · intro h
    exact ⟨h i (Nat.le_refl _) hi, fun j h1 h2 => h j (by omega) h2⟩
  · rintro ⟨h1, h2⟩ j h3 h4
    by_cases e : j = i
    · rw [e]; exact h1
    · exact h2 j (by omega) h4
theorem false_iff_of {P : Prop} (h : ¬ P) : (false = true) ↔ P := ⟨fun e => (by cases e), fun p => absurd p h⟩

theorem spec_l1 (a : Int) (ks : List S24) (ss : List S74) (ha0 : 0 ≤ a) (ha : a ≤ 1000000) (hk : ks.length ≤ 1000000) (hs : ss.length ≤ 1048576) (d : Nat) : ∀ (k i : Nat), i ≤ ss.length → ss.length - i = d → 2 * d < k →
    ∃ b, spec_L5Valid.l1 k ss (ss.length : Int) (i : Int) a ks ss = some b ∧ (b = true ↔ SesssOk (a + ks.length) ss i) := by
  induction d with
  | zero =>
    intro k i hi hd hk2
    obtain ⟨k, rfl⟩ : ∃ m, k = m + 1 := ⟨k - 1, by omega⟩
    exact ⟨true, by rw [spec_L5Valid.l1, if_neg (by omega)], by simp; exact SesssOk.end_ (by omega)⟩
  | succ d ih =>
    intro k i hi hd hk2
    obtain ⟨k, rfl⟩ : ∃ m, k = m + 2 := ⟨k - 2, by omega⟩
    obtain ⟨b, hb, hiff⟩ := ih k (i + 1) (by omega) (by omega) (by omega)
    rw [SesssOk.step (by omega)]
    obtain ⟨t, ht, hti⟩ := l5Item_iff (rd_T74 ss i).f0 (rd_T74 ss i).f1 (rd_T74 ss i).f3
    rw [spec_L5Valid.l1, if_pos (by omega), if_pos (by omega), if_pos (by omega), ht, Option.bind_some]
    have out : ∀ x0 x1 x2 x3, spec_L5Valid.j3 (k + 1) (i : Int) ss (ss.length : Int) (i : Int) true a ks ss x0 x1 x2 x3 = some false := fun _ _ _ _ => by rw [spec_L5Valid.j3, if_pos rfl]
    cases t with
    | false =>
      rw [if_neg (by decide), out]
      exact ⟨false, rfl, false_iff_of (fun h => by have := hti.2 h.1.1; cases this)⟩
    | true =>
      rw [if_pos rfl]
      have hit := hti.1 rfl
      by_cases c1 : (rd_T74 ss i).f2 < 0
      · rw [if_pos c1, out]
        exact ⟨false, rfl, false_iff_of (fun h => by have := h.1.2.1; omega)⟩
      · rw [if_neg c1, w64 (x := a + (ks.length : Int)) (by omega) (by omega)]
        by_cases c2 : (rd_T74 ss i).f2 ≥ a + (ks.length : Int)
        · rw [decide_eq_true c2, out]
          exact ⟨false, rfl, false_iff_of (fun h => by have := h.1.2.2.1; omega)⟩
        · rw [decide_eq_false c2, spec_L5Valid.j3, if_neg (by decide), w64n (by omega)]
          by_cases c3 : (i : Int) > 0
          · rw [if_pos c3, w64 (x := (i : Int) - 1) (by omega) (by omega), if_pos (by omega), if_pos (by omega), show (i : Int) - 1 = ((i - 1 : Nat) : Int) by omega]
            by_cases c4 : (rd_T74 ss ((i - 1 : Nat) : Int)).f0 ≥ (rd_T74 ss i).f0
            · rw [if_pos c4]
              exact ⟨false, rfl, false_iff_of (fun h => by have := h.1.2.2.2 (by omega); omega)⟩
            · rw [if_neg c4]
              exact ⟨b, hb, hiff.trans ⟨fun h => ⟨⟨hit, by omega, by omega, fun _ => by omega⟩, h⟩, fun h => h.2⟩⟩
          · rw [if_neg c3]
            exact ⟨b, hb, hiff.trans ⟨fun h => ⟨⟨hit, by omega, by omega, fun _ => by omega⟩, h⟩, fun h => h.2⟩⟩

theorem spec_l0 (a : Int) (ks : List S24) (ss : List S74) (ha0 : 0 ≤ a) (ha : a ≤ 1000000) (hk : ks.length ≤ 1000000) (hs : ss.length ≤ 1048576) (d : Nat) : ∀ (k i : Nat), i ≤ ks.length → ks.length - i = d → d + 2 * ss.length + 2 < k →
    ∃ b, spec_L5Valid.l0 k ks (ks.length : Int) (i : Int) a ks ss = some b ∧ (b = true ↔ ItemsOk ks i ∧ SesssOk (a + ks.length) ss 0) := by
  induction d with
  | zero =>
    intro k i hi hd hk2
    obtain ⟨k, rfl⟩ : ∃ m, k = m + 1 := ⟨k - 1, by omega⟩
    obtain ⟨b, hb, hiff⟩ := spec_l1 a ks ss ha0 ha hk hs ss.length k 0 (by omega) (by omega) (by omega)
    rw [spec_L5Valid.l0, if_neg (by omega)]
    exact ⟨b, hb, hiff.trans ⟨fun h => ⟨ItemsOk.end_ (by omega), h⟩, fun h => h.2⟩⟩
  | succ d ih =>
    intro k i hi hd hk2
    obtain ⟨k, rfl⟩ : ∃ m, k = m + 1 := ⟨k - 1, by omega⟩
    obtain ⟨b, hb, hiff⟩ := ih k (i + 1) (by omega) (by omega) (by omega)
    obtain ⟨t, ht, hti⟩ := l5Item_iff (rd_T24 ks i).f0 (rd_T24 ks i).f1 (rd_T24 ks i).f2
    rw [spec_L5Valid.l0, if_pos (by omega), if_pos (by omega), if_pos (by omega), ht, Option.bind_some, w64n (by omega), ItemsOk.step (by omega)]
    cases t with
    | false =>
      rw [if_neg (by decide)]
      exact ⟨false, rfl, false_iff_of (fun h => by have := hti.2 h.1.1; cases this)⟩
    | true =>
      rw [if_pos rfl]
      exact ⟨b, hb, hiff.trans ⟨fun h => ⟨⟨hti.1 rfl, h.1⟩, h.2⟩, fun h => ⟨h.1.2, h.2⟩⟩⟩

theorem spec_valid (a : Int) (ks : List S24) (ss : List S74) (hs : ss.length ≤ 1048576) : ∃ b, Ev (fun k => spec_L5Valid.f k a ks ss) b ∧ (b = true ↔ SvcOk a ks ss) := by
  have out : Ev (fun k => spec_L5Valid.j0 k true a ks ss) false := Ev.step (fun k => by rw [spec_L5Valid.j0, if_pos rfl]) (Ev.now _)
  unfold spec_L5Valid.f
  by_cases c1 : a < 0
  · simp only [if_pos c1]
    exact ⟨false, out, false_iff_of (fun h => by have := h.1.1; omega)⟩
  simp only [if_neg c1]
  by_cases c2 : a > 1000000
  · simp only [if_pos c2]
    exact ⟨false, out, false_iff_of (fun h => by have := h.1.2.1; omega)⟩
  simp only [if_neg c2]
  by_cases c3 : (ks.length : Int) > 1000000
  · simp only [decide_eq_true c3]
    exact ⟨false, out, false_iff_of (fun h => by have := h.1.2.2; omega)⟩
  simp only [decide_eq_false c3]
  obtain ⟨b, hb, hiff⟩ := spec_l0 a ks ss (by omega) (by omega) (by omega) hs ks.length (ks.length + 2 * ss.length + 3) 0 (by omega) (by omega) (by omega)
  refine ⟨b, ⟨ks.length + 2 * ss.length + 4, fun k hk => ?_⟩, hiff.trans ⟨fun h => ⟨⟨by omega, by omega, by omega⟩, h.1, h.2⟩, fun h => h.2⟩⟩
  obtain ⟨k, rfl⟩ : ∃ m, k = m + 1 := ⟨k - 1, by omega⟩
  show spec_L5Valid.j0 (k + 1) _ _ _ _ = _
  rw [spec_L5Valid.j0, if_neg (by decide)]
  obtain ⟨b2, hb2, hiff2⟩ := spec_l0 a ks ss (by omega) (by omega) (by omega) hs ks.length k 0 (by omega) (by omega) (by omega)
  have e : b2 = b := by
    cases b2 <;> cases b
    · rfl
    · exact absurd (hiff2.2 (hiff.1 rfl)) (by decide)
    · exact absurd (hiff.2 (hiff2.1 rfl)) (by decide)
    · rfl
  rw [← e]
  exact hb2

theorem impl_l0 (a : Int) (ks : List S24) (ss : List S74) (ha0 : 0 ≤ a) (ha : a ≤ 1000000) (hk : ks.length ≤ 1000000) (hs : ss.length ≤ 1048576) (d : Nat) : ∀ (k i : Nat), i ≤ ss.length → ss.length - i = d → d < k →
    ∃ b, impl_Service_valid.l0 k ss (ss.length : Int) (i : Int) a ks ss = some b ∧ (b = true ↔ SesssOk (a + ks.length) ss i) := by
  induction d with
  | zero =>
    intro k i hi hd hk2
    obtain ⟨k, rfl⟩ : ∃ m, k = m + 1 := ⟨k - 1, by omega⟩
    exact ⟨true, by rw [impl_Service_valid.l0, if_neg (by omega)], by simp; exact SesssOk.end_ (by omega)⟩
  | succ d ih =>
    intro k i hi hd hk2
    obtain ⟨k, rfl⟩ : ∃ m, k = m + 1 := ⟨k - 1, by omega⟩
    obtain ⟨b, hb, hiff⟩ := ih k (i + 1) (by omega) (by omega) (by omega)
    rw [SesssOk.step (by omega)]
    obtain ⟨t, ht, hti⟩ := l5Item_iff (rd_T74 ss i).f0 (rd_T74 ss i).f1 (rd_T74 ss i).f3
    rw [impl_Service_valid.l0, if_pos (by omega), if_pos (by omega), if_pos (by omega), item_valid_same, ht, Option.bind_some]
    cases t with
    | false =>
      rw [if_neg (by decide)]
      exact ⟨false, rfl, false_iff_of (fun h => by have := hti.2 h.1.1; cases this)⟩
    | true =>
      rw [if_pos rfl]
      have hit := hti.1 rfl
      by_cases c1 : (rd_T74 ss i).f2 < 0
      · rw [if_pos c1]
        exact ⟨false, rfl, false_iff_of (fun h => by have := h.1.2.1; omega)⟩
      · rw [if_neg c1]
        unfold impl_Service_count.f
        rw [Option.bind_some, w64 (x := a + (ks.length : Int)) (by omega) (by omega)]
        by_cases c2 : (rd_T74 ss i).f2 ≥ a + (ks.length : Int)
        · rw [if_pos c2]
          exact ⟨false, rfl, false_iff_of (fun h => by have := h.1.2.2.1; omega)⟩
        · rw [if_neg c2, w64n (by omega)]
          by_cases c3 : (i : Int) > 0
          · rw [if_pos c3, w64 (x := (i : Int) - 1) (by omega) (by omega), if_pos (by omega), if_pos (by omega), show (i : Int) - 1 = ((i - 1 : Nat) : Int) by omega]
            by_cases c4 : (rd_T74 ss ((i - 1 : Nat) : Int)).f0 ≥ (rd_T74 ss i).f0
            · rw [if_pos c4]
              exact ⟨false, rfl, false_iff_of (fun h => by have := h.1.2.2.2 (by omega); omega)⟩
            · rw [if_neg c4]
              exact ⟨b, hb, hiff.trans ⟨fun h => ⟨⟨hit, by omega, by omega, fun _ => by omega⟩, h⟩, fun h => h.2⟩⟩
          · rw [if_neg c3]
            exact ⟨b, hb, hiff.trans ⟨fun h => ⟨⟨hit, by omega, by omega, fun _ => by omega⟩, h⟩, fun h => h.2⟩⟩
theorem any_bad (ks : List S24) : ks.any badItem = false ↔ ItemsOk ks 0 := by
  rw [List.any_eq_false]
  constructor
  · intro h j _ hj
    have e : rd_T24 ks (j : Int) = ks[j] := by simp [rd_T24, List.getD, hj]
    have h1 := h (ks[j]) (List.getElem_mem hj)
    obtain ⟨t, ht, hti⟩ := l5Item_iff (ks[j]).f0 (ks[j]).f1 (ks[j]).f2
    rw [bad_not (ks[j]) t (by rw [item_valid_same]; exact ht)] at h1
    rw [e]
    apply hti.1
    cases t
    · exact absurd rfl h1
    · rfl
  · intro h x hx
    obtain ⟨j, hj, rfl⟩ := List.getElem_of_mem hx
    have e : rd_T24 ks (j : Int) = ks[j] := by simp [rd_T24, List.getD, hj]
    have h1 := h j (Nat.zero_le _) hj
    rw [e] at h1
    obtain ⟨t, ht, hti⟩ := l5Item_iff (ks[j]).f0 (ks[j]).f1 (ks[j]).f2
    rw [bad_not (ks[j]) t (by rw [item_valid_same]; exact ht), hti.2 h1]
    decide
theorem impl_valid (a : Int) (ks : List S24) (ss : List S74) (hs : ss.length ≤ 1048576) : ∃ b, Ev (fun k => impl_Service_valid.f k a ks ss) b ∧ (b = true ↔ SvcOk a ks ss) := by
  have out : Ev (fun k => impl_Service_valid.j0 k true a ks ss) false := Ev.step (fun k => by rw [impl_Service_valid.j0, if_pos rfl]) (Ev.now _)
  unfold impl_Service_valid.f
  by_cases c1 : a < 0
  · simp only [if_pos c1]
    exact ⟨false, out, false_iff_of (fun h => by have := h.1.1; omega)⟩
  simp only [if_neg c1]
  by_cases c2 : a > 1000000
  · simp only [if_pos c2]
    exact ⟨false, out, false_iff_of (fun h => by have := h.1.2.1; omega)⟩
  simp only [if_neg c2]
  by_cases c3 : (ks.length : Int) > 1000000
  · simp only [if_pos c3]
    exact ⟨false, out, false_iff_of (fun h => by have := h.1.2.2; omega)⟩
  simp only [if_neg c3, impl_Item_72.f, Option.bind_some]
  cases c4 : ks.any badItem with
  | true => exact ⟨false, out, false_iff_of (fun h => by have := (any_bad ks).2 h.2.1; rw [c4] at this; cases this)⟩
  | false =>
    have hks := (any_bad ks).1 c4
    obtain ⟨b, hb, hiff⟩ := impl_l0 a ks ss (by omega) (by omega) (by omega) hs ss.length (ss.length + 1) 0 (by omega) (by omega) (by omega)
    refine ⟨b, ⟨ss.length + 2, fun k hk => ?_⟩, hiff.trans ⟨fun h => ⟨⟨by omega, by omega, by omega⟩, hks, h⟩, fun h => h.2.2⟩⟩
    obtain ⟨k, rfl⟩ : ∃ m, k = m + 1 := ⟨k - 1, by omega⟩
    show impl_Service_valid.j0 (k + 1) _ _ _ _ = _
    rw [impl_Service_valid.j0, if_neg (by decide)]
    obtain ⟨b2, hb2, hiff2⟩ := impl_l0 a ks ss (by omega) (by omega) (by omega) hs ss.length k 0 (by omega) (by omega) (by omega)
    have e : b2 = b := by
      cases b2 <;> cases b
      · rfl
      · exact absurd (hiff2.2 (hiff.1 rfl)) (by decide)
      · exact absurd (hiff.2 (hiff2.1 rfl)) (by decide)
      · rfl
    rw [← e]
    exact hb2
/-- Both ask the same. -/
theorem valid_both (a : Int) (ks : List S24) (ss : List S74) (hs : ss.length ≤ 1048576) : ∃ b, Ev (fun k => spec_L5Valid.f k a ks ss) b ∧ Ev (fun k => impl_Service_valid.f k a ks ss) b ∧ (b = true ↔ SvcOk a ks ss) := by
  obtain ⟨b, h1, i1⟩ := spec_valid a ks ss hs
  obtain ⟨b2, h2, i2⟩ := impl_valid a ks ss hs
  have e : b2 = b := by
    cases b2 <;> cases b
    · rfl
    · exact absurd (i2.2 (i1.1 rfl)) (by decide)
    · exact absurd (i1.2 (i2.1 rfl)) (by decide)
    · rfl
  subst e
  exact ⟨b2, h1, h2, i1⟩

/-! ### both encoders of a state -/
def word8 (v : Int) : List Int := littleOf v 8
theorem word8_len (v : Int) : (word8 v).length = 8 := littleOf_length v 8
def sessBytes (x : S74) : List Int := word8 x.f0 ++ word8 x.f1 ++ word8 x.f2 ++ word8 (x.f3.length : Int) ++ x.f3
def fromBytes (ss : List S74) (i : Nat) : List Int := ((ss.drop i).map sessBytes).flatten
theorem sessBytes_len (x : S74) : (sessBytes x).length = 32 + x.f3.length := by
  simp only [sessBytes, List.length_append, word8_len]
theorem fromBytes_end {ss : List S74} {i : Nat} (h : ss.length ≤ i) : fromBytes ss i = [] := by
  simp [fromBytes, List.drop_eq_nil_of_le h]
theorem rd_mem74 (l : List S74) (i : Nat) (h : i < l.length) : rd_T74 l (i : Int) = l[i] := by
  simp [rd_T74, List.getD, h]
theorem rd_mem24 (l : List S24) (i : Nat) (h : i < l.length) : rd_T24 l (i : Int) = l[i] := by
  simp [rd_T24, List.getD, h]
theorem fromBytes_step {ss : List S74} {i : Nat} (h : i < ss.length) : fromBytes ss i = sessBytes (rd_T74 ss i) ++ fromBytes ss (i + 1) := by
  simp only [fromBytes, List.drop_eq_getElem_cons h, List.map_cons, List.flatten_cons, rd_mem74 ss i h]
theorem put_ev (v : Int) (hv : 0 ≤ v) (hv' : v ≤ 9223372036854775807) : Ev (fun k => spec_l2Put.f k v 8) (word8 v) := l2Put_ev v hv hv' 8 (by omega)
/-- The given side, one session. -/
theorem enc_l1 (ss : List S74) (n i : Int) (acc : List Int) (a b c : Int) (t : List Int) (r : List Int × Int) (ha : 0 ≤ a ∧ a ≤ 9223372036854775807) (hb : 0 ≤ b ∧ b ≤ 9223372036854775807) (hc : 0 ≤ c ∧ c ≤ 9223372036854775807) (ht : t.length ≤ 1048576) (hacc : acc.length ≤ 140000000000)
    (h : Ev (fun k => spec_EncodeState.l0 k (acc ++ (word8 a ++ word8 b ++ word8 c ++ word8 (t.length : Int) ++ t)) ss n (wrap64 (i + 1))) r) :
    Ev (fun k => spec_EncodeState.l1 k acc ss n i [a, b, c, (t.length : Int)] 4 0 a b c t) r := by
  have w1 : wrap64 ((0 : Int) + 1) = 1 := by unfold wrap64; omega
  have w2 : wrap64 ((1 : Int) + 1) = 2 := by unfold wrap64; omega
  have w3 : wrap64 ((2 : Int) + 1) = 3 := by unfold wrap64; omega
  have w4 : wrap64 ((3 : Int) + 1) = 4 := by unfold wrap64; omega
  refine Ev.step (fun k => by rw [spec_EncodeState.l1, if_pos (by decide), if_pos (by decide), if_pos (by simp)]) ?_
  refine Ev.bind (put_ev a ha.1 ha.2) ?_
  simp only [w1, word8_len, if_pos (show acc.length + 8 < 140737488355328 by omega)]
  refine Ev.step (fun k => by rw [spec_EncodeState.l1, if_pos (by decide), if_pos (by decide), if_pos (by simp)]) ?_
  refine Ev.bind (put_ev b hb.1 hb.2) ?_
  simp only [w2, List.length_append, word8_len, if_pos (show acc.length + 8 + 8 < 140737488355328 by omega)]
  refine Ev.step (fun k => by rw [spec_EncodeState.l1, if_pos (by decide), if_pos (by decide), if_pos (by simp)]) ?_
  refine Ev.bind (put_ev c hc.1 hc.2) ?_
  simp only [w3, List.length_append, word8_len, if_pos (show acc.length + 8 + 8 + 8 < 140737488355328 by omega)]
  refine Ev.step (fun k => by rw [spec_EncodeState.l1, if_pos (by decide), if_pos (by decide), if_pos (by simp)]) ?_
  refine Ev.bind (put_ev (t.length : Int) (by omega) (by omega)) ?_
  simp only [w4, List.length_append, word8_len, if_pos (show acc.length + 8 + 8 + 8 + 8 < 140737488355328 by omega)]
  refine Ev.step (fun k => by rw [spec_EncodeState.l1, if_neg (by decide)]) ?_
  simp only [List.length_append, word8_len, if_pos (show acc.length + 8 + 8 + 8 + 8 + t.length < 140737488355328 by omega)]
  simpa only [List.append_assoc] using h
theorem enc_l0 (cnt : Int) (ss : List S74) (hc : cnt ≤ 2000000) (hs : ss.length ≤ 1048576) (d : Nat) : ∀ (i : Nat) (acc : List Int), i ≤ ss.length → ss.length - i = d → SesssOk cnt ss i → acc.length + 96 * d ≤ 140000000000 →
    Ev (fun k => spec_EncodeState.l0 k acc ss (ss.length : Int) (i : Int)) (acc ++ fromBytes ss i, 0) := by
  induction d with
  | zero =>
    intro i acc hi hd hok hacc
    rw [fromBytes_end (by omega), List.append_nil]
    exact Ev.step (fun k => by rw [spec_EncodeState.l0, if_neg (by omega)]) (Ev.now _)
  | succ d ih =>
    intro i acc hi hd hok hacc
    obtain ⟨hok1, hok2⟩ := (SesssOk.step (by omega)).1 hok
    obtain ⟨⟨g1, g2, g3, g4, g5⟩, g6, g7, _⟩ := hok1
    have hlen := sessBytes_len (rd_T74 ss i)
    refine Ev.step (fun k => by rw [spec_EncodeState.l0, if_pos (by omega), if_pos (by omega), if_pos (by omega), Option.bind_some]) ?_
    refine enc_l1 ss (ss.length : Int) (i : Int) acc (rd_T74 ss i).f0 (rd_T74 ss i).f1 (rd_T74 ss i).f2 (rd_T74 ss i).f3 _ ⟨by omega, by omega⟩ ⟨by omega, by omega⟩ ⟨by omega, by omega⟩ (by omega) (by omega) ?_
    have h := ih (i + 1) (acc ++ sessBytes (rd_T74 ss i)) (by omega) (by omega) hok2 (by rw [List.length_append, hlen]; omega)
    rw [w64n (by omega), fromBytes_step (by omega), ← List.append_assoc acc (sessBytes _)]
    exact h
theorem fromBytes_len (cnt : Int) (ss : List S74) (d : Nat) : ∀ i : Nat, i ≤ ss.length → ss.length - i = d → SesssOk cnt ss i → (fromBytes ss i).length ≤ 96 * d := by
  induction d with
  | zero => intro i hi hd _; rw [fromBytes_end (by omega)]; simp
  | succ d ih =>
    intro i hi hd hok
    obtain ⟨hok1, hok2⟩ := (SesssOk.step (by omega)).1 hok
    have h1 := ih (i + 1) (by omega) (by omega) hok2
    have h2 : (rd_T74 ss i).f3.length ≤ 64 := hok1.1.2.2.2.2
    rw [fromBytes_step (by omega), List.length_append, sessBytes_len]
    omega

theorem eqItem_ev (x y : Int) (z : List Int) (hz : z.length ≤ 1048576) : Ev (fun k => laws_eqItem.f k x y z x y z) true := by
  unfold laws_eqItem.f
  simp only [if_true]
  refine Ev.bind (eqByteS_ev z (by omega)) ?_
  simp only [if_true]
  exact Ev.now _
theorem eqSession_ev (x y u : Int) (z : List Int) (hz : z.length ≤ 1048576) : Ev (fun k => laws_eqSession.f k x y u z x y u z) true := by
  unfold laws_eqSession.f
  simp only [if_true]
  refine Ev.bind (eqByteS_ev z (by omega)) ?_
  simp only [if_true]
  exact Ev.now _
theorem eqItemS_l0 (l : List S24) (hl : l.length ≤ 1048576) (hb : ∀ x ∈ l, x.f2.length ≤ 1048576) (d : Nat) : ∀ (i : Nat), i ≤ l.length → l.length - i = d → Ev (fun k => laws_eqItemS.l0 k l l (i : Int)) true := by
  induction d with
  | zero =>
    intro i hi hd
    exact Ev.step (fun k => by rw [laws_eqItemS.l0, if_neg (by omega)]) (Ev.now _)
  | succ d ih =>
    intro i hi hd
    have hn : (rd_T24 l i).f2.length ≤ 1048576 := by rw [rd_mem24 l i (by omega)]; exact hb _ (List.getElem_mem _)
    refine Ev.step (fun k => by rw [laws_eqItemS.l0, if_pos (by omega), if_pos (by omega), if_pos (by omega)]) ?_
    refine Ev.bind (eqItem_ev _ _ _ hn) ?_
    simp only [if_true, w64n (show i < 9223372036854775807 by omega)]
    exact ih (i + 1) (by omega) (by omega)
theorem eqSessionS_l0 (l : List S74) (hl : l.length ≤ 1048576) (hb : ∀ x ∈ l, x.f3.length ≤ 1048576) (d : Nat) : ∀ (i : Nat), i ≤ l.length → l.length - i = d → Ev (fun k => laws_eqSessionS.l0 k l l (i : Int)) true := by
  induction d with
  | zero =>
    intro i hi hd
    exact Ev.step (fun k => by rw [laws_eqSessionS.l0, if_neg (by omega)]) (Ev.now _)
  | succ d ih =>
    intro i hi hd
    have hn : (rd_T74 l i).f3.length ≤ 1048576 := by rw [rd_mem74 l i (by omega)]; exact hb _ (List.getElem_mem _)
    refine Ev.step (fun k => by rw [laws_eqSessionS.l0, if_pos (by omega), if_pos (by omega), if_pos (by omega)]) ?_
    refine Ev.bind (eqSession_ev _ _ _ _ hn) ?_
    simp only [if_true, w64n (show i < 9223372036854775807 by omega)]
    exact ih (i + 1) (by omega) (by omega)
/-- A service is the same as itself. -/
theorem eqService_ev (a : Int) (ks : List S24) (ss : List S74) (h1 : ks.length ≤ 1048576) (h2 : ss.length ≤ 1048576) (b1 : ∀ x ∈ ks, x.f2.length ≤ 1048576) (b2 : ∀ x ∈ ss, x.f3.length ≤ 1048576) : Ev (fun k => laws_eqService.f k a ks ss a ks ss) true := by
  unfold laws_eqService.f laws_eqItemS.f laws_eqSessionS.f
  simp only [if_true]
  refine Ev.bind (eqItemS_l0 ks h1 b1 ks.length 0 (by omega) (by omega)) ?_
  simp only [if_true]
  refine Ev.bind (eqSessionS_l0 ss h2 b2 ss.length 0 (by omega) (by omega)) ?_
  simp only [if_true]
  exact Ev.now _
theorem itemsTot_le (l : List S24) (hb : ∀ x ∈ l, x.f2.length ≤ 1048576) : itemsTot l ≤ l.length * 1048578 := by
  induction l with
  | nil => simp [itemsTot]
  | cons x l ih =>
    have h1 := ih (fun y hy => hb y (List.mem_cons_of_mem _ hy))
    have h2 := hb x List.mem_cons_self
    simp only [itemsTot, List.length_cons]
    omega
theorem sessTot_le (l : List S74) (hb : ∀ x ∈ l, x.f3.length ≤ 1048576) : sessTot l ≤ l.length * 1048579 := by
  induction l with
  | nil => simp [sessTot]
  | cons x l ih =>
    have h1 := ih (fun y hy => hb y (List.mem_cons_of_mem _ hy))
    have h2 := hb x List.mem_cons_self
    simp only [sessTot, List.length_cons]
    omega

/-! ### what the held words answer of marked sessions -/
theorem heldByte_k (a : Int) (ha0 : 0 ≤ a) (ha : a ≤ 281474976710656) (x : List Int) (hx : x.length ≤ 281474976710656) (hM : Marked a x) (k : Nat) (hk : x.length < k) : laws_heldByteS.f k x a = some (a + x.length) := by
  unfold laws_heldByteS.f
  have h := heldByteS_l0 a ha0 x hx ha hM x.length k 0 (by omega) (by omega) (by omega)
  simpa using h
theorem sessTot_snoc (l : List S74) (x : S74) : sessTot (l ++ [x]) = sessTot l + (3 + x.f3.length) := by
  induction l with
  | nil => simp [sessTot]
  | cons y l ih =>
    simp only [List.cons_append, sessTot, ih]
    omega
theorem sessTot_take (r : List S74) (i : Nat) (h : i < r.length) : sessTot (r.take (i + 1)) = sessTot (r.take i) + (3 + r[i].f3.length) := by
  rw [List.take_succ_eq_append_getElem h, sessTot_snoc]
theorem held_wraps (s : Nat) (h : s ≤ 1100000000000) : wrap64 (1 + (s : Int) + 1) = 1 + (s : Int) + 1 ∧ wrap64 (1 + (s : Int) + 1 + 1) = 1 + (s : Int) + 2 ∧ wrap64 (1 + (s : Int) + 2 + 1) = 1 + (s : Int) + 3 ∧ 0 ≤ 1 + (s : Int) + 3 ∧ 1 + (s : Int) + 3 ≤ 281474976710656 := by
  refine ⟨w64 (by omega) (by omega), ?_, ?_, by omega, by omega⟩
  · rw [w64 (by omega) (by omega)]; omega
  · rw [w64 (by omega) (by omega)]; omega
theorem held_sum (s n : Nat) : (1 : Int) + (s : Int) + 3 + (n : Int) = 1 + ((s + (3 + n) : Nat) : Int) := by omega
theorem held_pos (s n : Nat) : ¬ (1 : Int) + (s : Int) + 3 + (n : Int) < 0 := by omega
set_option maxHeartbeats 1000000 in
theorem heldSess_k (r m : List S74) (hr : ∀ x ∈ r, x.f3.length ≤ 1048576) (hn : r.length ≤ 1048576) (hm : MarkedSess 1 r r.length m) (d : Nat) : ∀ (k i : Nat), i ≤ r.length → r.length - i = d → d + 1048577 < k →
    laws_heldSessionS.l0 k m (1 + (sessTot (r.take i) : Int)) (i : Int) = some (1 + (sessTot r : Int)) := by
  obtain ⟨hl, hx, _⟩ := hm
  induction d with
  | zero =>
    intro k i hi hd hk
    obtain ⟨k, rfl⟩ : ∃ q, k = q + 1 := ⟨k - 1, by omega⟩
    rw [laws_heldSessionS.l0, if_neg (by omega), show i = r.length by omega, List.take_length]
  | succ d ih =>
    intro k i hi hd hk
    obtain ⟨k, rfl⟩ : ∃ q, k = q + 1 := ⟨k - 1, by omega⟩
    have him : i < m.length := by omega
    have hir : i < r.length := by omega
    obtain ⟨h0, h1, h2, h3, h4⟩ := hx i m[i] hir (List.getElem?_eq_getElem him)
    have h5 := h4 r[i] (List.getElem?_eq_getElem hir)
    have hb := hr r[i] (List.getElem_mem hir)
    have ht := sessTot_le (r.take i) (fun x hx => hr x (List.mem_of_mem_take hx))
    have htl : (r.take i).length = i := by rw [List.length_take]; omega
    have hs := sessTot_take r i hir
    have g := ih k (i + 1) (by omega) (by omega) (by omega)
    rw [hs] at g
    have hS : sessTot (r.take i) ≤ 1100000000000 := by rw [htl] at ht; omega
    obtain ⟨w1, w2, w3, z0, z1⟩ := held_wraps _ hS
    have hb3 : m[i].f3.length ≤ 1048576 := by rw [h5]; exact hb
    have hh := heldByte_k (1 + (sessTot (r.take i) : Int) + 3) z0 z1 m[i].f3 (Nat.le_trans hb3 (by decide)) h3 k (Nat.lt_of_le_of_lt hb3 (by omega))
    rw [laws_heldSessionS.l0, if_pos (by omega), if_pos (by omega), rd_mem74 m i him, w1, w2, w3, if_pos h0, if_pos h1, if_pos h2, hh, Option.bind_some, if_neg (held_pos _ _), w64n (by omega), h5]
    rw [held_sum]
    exact g
theorem heldService_k (a : Int) (r : List S74) (hr : ∀ x ∈ r, x.f3.length ≤ 1048576) (hn : r.length ≤ 1048576) (k : Nat) (hk : 2097155 ≤ k) (m : List S74) (hm : MarkedSess 1 r r.length m) : laws_heldService.f k a [] m 1 = some (1 + (sessTot r : Int)) := by
  unfold laws_heldService.f laws_heldItemS.f laws_heldSessionS.f
  obtain ⟨q, rfl⟩ : ∃ q, k = q + 1 := ⟨k - 1, by omega⟩
  have h := heldSess_k r m hr hn hm r.length (q + 1) 0 (by omega) (by omega) (by omega)
  rw [laws_heldItemS.l0, if_neg (by simp), Option.bind_some, if_neg (by omega)]
  simp only [List.take_zero, sessTot] at h
  rw [show (1 : Int) + ((0 : Nat) : Int) = 1 by omega] at h
  have h' : laws_heldSessionS.l0 (q + 1) m 1 0 = some (1 + (sessTot r : Int)) := h
  rw [h', Option.bind_some, if_neg (by omega)]

/-! ### the program's reader: what it takes, and what it makes of an encoded state -/
theorem littleOf_cons (v : Int) (n : Nat) : littleOf v (n + 1) = (v % 256) :: littleOf (v / 256) n := by
  simp only [littleOf, List.range_succ_eq_map, List.map_cons, List.map_map]
  congr 1
  · simp
  · apply List.map_congr_left
    intro i _
    show v / 2 ^ (8 * (i + 1)) % 256 = v / 256 / 2 ^ (8 * i) % 256
    rw [Int.ediv_ediv_of_nonneg (by omega), show (256 : Int) = 2 ^ 8 by decide, ← Int.pow_add, show 8 + 8 * i = 8 * (i + 1) by omega]
theorem littleOf_val : ∀ (x : List Int), Bytes x → littleOf (val x) x.length = x
  | [], _ => rfl
  | b :: l, h => by
    have hb := h b List.mem_cons_self
    have ih := littleOf_val l (fun y hy => h y (List.mem_cons_of_mem _ hy))
    rw [List.length_cons, littleOf_cons, val, show (b + 256 * val l) % 256 = b by omega, show (b + 256 * val l) / 256 = val l by omega, ih]
theorem val_littleOf (n : Nat) : ∀ v : Int, 0 ≤ v → v < 256 ^ n → val (littleOf v n) = v := by
  induction n with
  | zero => intro v h0 h1; simp at h1; have : v = 0 := by omega
            subst this; rfl
  | succ n ih =>
    intro v h0 h1
    have h2 : v / 256 < 256 ^ n := by
      apply Int.ediv_lt_of_lt_mul (by omega)
      rw [Int.pow_succ] at h1
      exact h1
    rw [littleOf_cons, val, ih (v / 256) (by omega) h2]
    omega
theorem word8_head (v : Int) (l : List Int) (h0 : 0 ≤ v) (h1 : v ≤ 9223372036854775807) : head8 (word8 v ++ l) = v := by
  unfold head8
  rw [List.take_append_of_le_length (by rw [word8_len]; omega), List.take_of_length_le (by rw [word8_len]; omega)]
  exact val_littleOf 8 v h0 (by omega)
theorem nextF_word (v m : Int) (l : List Int) (ok : Bool) (h0 : 0 ≤ v) (hm : v ≤ m) (hmm : m ≤ 9223372036854775807) : nextF (word8 v ++ l) ok m = (v, l, ok) := by
  unfold nextF
  rw [if_neg (by rw [List.length_append, word8_len]; omega), word8_head v l h0 (by omega), if_neg (by omega), List.drop_append_of_le_length (by rw [word8_len]; omega), List.drop_of_length_le (by rw [word8_len]; omega), List.nil_append]
theorem nextF_out {l : List Int} {ok : Bool} {m : Int} (hb : Bytes l) (h : (nextF l ok m).2.2 = true) : ok = true ∧ l = word8 (nextF l ok m).1 ++ (nextF l ok m).2.1 ∧ 0 ≤ (nextF l ok m).1 ∧ Bytes (nextF l ok m).2.1 := by
  unfold nextF at h ⊢
  by_cases c : l.length < 8
  · rw [if_pos c] at h; cases h
  · rw [if_neg c] at h ⊢
    by_cases c2 : m < head8 l
    · rw [if_pos c2] at h; cases h
    · rw [if_neg c2] at h ⊢
      refine ⟨h, ?_, (head8_range l hb).1, hb.drop 8⟩
      have e : word8 (head8 l) = l.take 8 := by
        have h8 : (l.take 8).length = 8 := by rw [List.length_take]; omega
        have := littleOf_val (l.take 8) (hb.take 8)
        rw [h8] at this
        exact this
      show l = word8 (head8 l) ++ l.drop 8
      rw [e, List.take_append_drop]
theorem fromBytes_cons (x : S74) (ss : List S74) : fromBytes (x :: ss) 0 = sessBytes x ++ fromBytes ss 0 := by simp [fromBytes]
theorem fromBytes_nil : fromBytes ([] : List S74) 0 = [] := rfl
theorem nextF_bytes {l : List Int} {ok : Bool} {m : Int} (hb : Bytes l) : Bytes (nextF l ok m).2.1 := by
  unfold nextF
  split
  · exact hb
  · split
    · exact hb
    · exact hb.drop 8
theorem dsLoop_out (n : Nat) : ∀ (l : List Int) (ss : List S74), Bytes l → (dsLoop n l ss).2.1 = true → ∃ new, (dsLoop n l ss).2.2 = ss ++ new ∧ new.length = n ∧ l = fromBytes new 0 ++ (dsLoop n l ss).1 := by
  induction n with
  | zero => intro l ss _ _; exact ⟨[], by simp [dsLoop], rfl, by simp [dsLoop, fromBytes]⟩
  | succ n ih =>
    intro l ss hb h
    obtain ⟨p1, e1⟩ : ∃ p, p = nextF l true 50 := ⟨_, rfl⟩
    obtain ⟨p2, e2⟩ : ∃ p, p = nextF p1.2.1 p1.2.2 1000000000 := ⟨_, rfl⟩
    obtain ⟨p3, e3⟩ : ∃ p, p = nextF p2.2.1 p2.2.2 2000000 := ⟨_, rfl⟩
    obtain ⟨p4, e4⟩ : ∃ p, p = nextF p3.2.1 p3.2.2 64 := ⟨_, rfl⟩
    rw [dsLoop] at h ⊢
    simp only [← e1, ← e2, ← e3, ← e4] at h ⊢
    by_cases c : p4.2.2 = true ∧ p4.1 ≤ (p4.2.1.length : Int)
    · rw [if_pos c] at h ⊢
      have b1 : Bytes p1.2.1 := by rw [e1]; exact nextF_bytes hb
      have b2 : Bytes p2.2.1 := by rw [e2]; exact nextF_bytes b1
      have b3 : Bytes p3.2.1 := by rw [e3]; exact nextF_bytes b2
      have b4 : Bytes p4.2.1 := by rw [e4]; exact nextF_bytes b3
      have o4 := nextF_out b3 (show (nextF p3.2.1 p3.2.2 64).2.2 = true by rw [← e4]; exact c.1)
      rw [← e4] at o4
      have o3 := nextF_out b2 (show (nextF p2.2.1 p2.2.2 2000000).2.2 = true by rw [← e3]; exact o4.1)
      rw [← e3] at o3
      have o2 := nextF_out b1 (show (nextF p1.2.1 p1.2.2 1000000000).2.2 = true by rw [← e2]; exact o3.1)
      rw [← e2] at o2
      have o1 := nextF_out hb (show (nextF l true 50).2.2 = true by rw [← e1]; exact o2.1)
      rw [← e1] at o1
      obtain ⟨new, q1, q2, q3⟩ := ih _ _ (b4.drop _) h
      have hz := o4.2.2.1
      have hl : ((p4.2.1.take p4.1.toNat).length : Int) = p4.1 := by rw [List.length_take]; omega
      refine ⟨⟨p1.1, p2.1, p3.1, p4.2.1.take p4.1.toNat⟩ :: new, by rw [q1, List.append_assoc]; rfl, by rw [List.length_cons, q2], ?_⟩
      rw [fromBytes_cons, sessBytes, hl, List.append_assoc, ← q3]
      rw [o1.2.1, o2.2.1, o3.2.1, o4.2.1]
      simp only [List.append_assoc, List.take_append_drop]
    · rw [if_neg c] at h; cases h
def SessFit (x : S74) : Prop := (0 ≤ x.f0 ∧ x.f0 ≤ 50) ∧ (0 ≤ x.f1 ∧ x.f1 ≤ 1000000000) ∧ (0 ≤ x.f2 ∧ x.f2 ≤ 2000000) ∧ x.f3.length ≤ 64
theorem dsLoop_in (new : List S74) : ∀ (ss : List S74) (rest : List Int), (∀ x ∈ new, SessFit x) → dsLoop new.length (fromBytes new 0 ++ rest) ss = (rest, true, ss ++ new) := by
  induction new with
  | nil => intro ss rest _; simp [dsLoop, fromBytes]
  | cons x new ih =>
    intro ss rest h
    obtain ⟨h0, h1, h2, h3⟩ := h x List.mem_cons_self
    rw [List.length_cons, dsLoop, fromBytes_cons, sessBytes]
    have e : word8 x.f0 ++ word8 x.f1 ++ word8 x.f2 ++ word8 (x.f3.length : Int) ++ x.f3 ++ fromBytes new 0 ++ rest = word8 x.f0 ++ (word8 x.f1 ++ (word8 x.f2 ++ (word8 (x.f3.length : Int) ++ (x.f3 ++ (fromBytes new 0 ++ rest))))) := by simp only [List.append_assoc]
    rw [e]
    simp only [nextF_word x.f0 50 _ _ h0.1 h0.2 (by omega), nextF_word x.f1 1000000000 _ _ h1.1 h1.2 (by omega), nextF_word x.f2 2000000 _ _ h2.1 h2.2 (by omega), nextF_word (x.f3.length : Int) 64 _ _ (by omega) (by omega) (by omega), Int.toNat_natCast]
    rw [if_pos ⟨trivial, by rw [List.length_append]; omega⟩, List.drop_append_of_le_length (Nat.le_refl _), List.drop_of_length_le (Nat.le_refl _), List.nil_append, List.take_append_of_le_length (Nat.le_refl _), List.take_of_length_le (Nat.le_refl _), ih _ _ (fun y hy => h y (List.mem_cons_of_mem _ hy))]
    simp
/-- An encoded state. -/
def encoded (base : Int) (ss : List S74) : List Int := word8 base ++ word8 (ss.length : Int) ++ fromBytes ss 0
theorem dsRun_in (base : Int) (ss : List S74) (h0 : 0 ≤ base) (h1 : base ≤ 2000000) (hn : ss.length ≤ 50) (h : ∀ x ∈ ss, SessFit x) : (dsBase (encoded base ss)).1 = base ∧ dsRun (encoded base ss) = ([], true, ss) := by
  have e1 : dsBase (encoded base ss) = (base, word8 (ss.length : Int) ++ fromBytes ss 0, true) := by
    unfold dsBase encoded
    rw [List.append_assoc]
    exact nextF_word base 2000000 _ _ h0 h1 (by omega)
  have e2 : dsCount (encoded base ss) = ((ss.length : Int), fromBytes ss 0, true) := by
    unfold dsCount
    rw [e1]
    exact nextF_word (ss.length : Int) 50 _ _ (by omega) (by omega) (by omega)
  refine ⟨by rw [e1], ?_⟩
  unfold dsRun dsGo
  rw [e2]
  have g := dsLoop_in ss [] [] h
  rw [List.append_nil] at g
  simpa using g
theorem dsRun_out (b : List Int) (hb : Bytes b) (h : (dsRun b).2.1 = true) (hr : (dsRun b).1 = []) : b = encoded (dsBase b).1 (dsRun b).2.2 := by
  have c : (dsCount b).2.2 = true := by
    unfold dsRun dsGo at h
    by_cases c : (dsCount b).2.2 = true
    · exact c
    · rw [if_neg c] at h; cases h
  have b1 : Bytes (dsBase b).2.1 := nextF_bytes hb
  have b2 : Bytes (dsCount b).2.1 := nextF_bytes b1
  have o2 : _ ∧ _ ∧ _ ∧ _ := nextF_out (l := (dsBase b).2.1) (ok := (dsBase b).2.2) (m := 50) b1 c
  have o1 : _ ∧ _ ∧ _ ∧ _ := nextF_out (l := b) (ok := true) (m := 2000000) hb o2.1
  have hrun : dsRun b = dsLoop (dsCount b).1.toNat (dsCount b).2.1 [] := if_pos c
  rw [hrun] at h hr ⊢
  obtain ⟨new, q1, q2, q3⟩ := dsLoop_out _ _ _ b2 h
  rw [hr, List.append_nil] at q3
  rw [q1, List.nil_append]
  have hn : ((new.length : Nat) : Int) = (dsCount b).1 := by rw [q2]; have : 0 ≤ (dsCount b).1 := o2.2.2.1; omega
  unfold encoded
  rw [hn, ← q3, List.append_assoc]
  have z1 : b = word8 (dsBase b).1 ++ (dsBase b).2.1 := o1.2.1
  have z2 : (dsBase b).2.1 = word8 (dsCount b).1 ++ (dsCount b).2.1 := o2.2.1
  rw [← z2]
  exact z1

/-! ### the given side's reader -/
theorem strOfNums_one {x y : List Int} (hx : Bytes x) (hy : Bytes y) (h : (strOfNums x).toList = (strOfNums y).toList) : x = y := by
  rw [Go.Lib.strOfNums_toList, Go.Lib.strOfNums_toList] at h
  induction x generalizing y with
  | nil => cases y with
    | nil => rfl
    | cons b l => simp [Go.Lib.bytesOf] at h
  | cons a x ih => cases y with
    | nil => simp [Go.Lib.bytesOf] at h
    | cons b y =>
      have h' : UInt8.ofNat a.toNat = UInt8.ofNat b.toNat ∧ Go.Lib.bytesOf x = Go.Lib.bytesOf y := by simpa [Go.Lib.bytesOf] using h
      have ha := hx a List.mem_cons_self
      have hb := hy b List.mem_cons_self
      have e := congrArg UInt8.toNat h'.1
      simp only [UInt8.toNat_ofNat'] at e
      have e2 : a = b := by omega
      rw [e2, ih (fun z hz => hx z (List.mem_cons_of_mem _ hz)) (fun z hz => hy z (List.mem_cons_of_mem _ hz)) h'.2]

theorem seen_range {x : List Int} (hb : Bytes x) (hp : 0 < x.length) : 0 ≤ seen x ∧ seen x ≤ 4611686018427387904 := by
  unfold seen
  by_cases c : 18014398509481984 ≤ val (x.drop 1)
  · rw [if_pos c]; omega
  · rw [if_neg c]
    have h := val_drop x 0 hp
    rw [List.drop_zero] at h
    have hg := hb.get 0 hp
    have h0 := (val_range (hb.drop 1)).1
    simp only [Nat.zero_add] at h
    omega
theorem word8_bytes (v : Int) : Bytes (word8 v) := by
  intro b hb
  unfold word8 littleOf at hb
  obtain ⟨i, _, rfl⟩ := List.mem_map.1 hb
  omega
theorem seen_word8 (v : Int) (h0 : 0 ≤ v) (h1 : v < 4611686018427387904) : seen (word8 v) = v := by
  have hv : val (word8 v) = v := val_littleOf 8 v h0 (by omega)
  have hp : 0 < (word8 v).length := by rw [word8_len]; omega
  have h := val_drop (word8 v) 0 hp
  rw [List.drop_zero, hv] at h
  have hg := (word8_bytes v).get 0 hp
  have hr := (val_range ((word8_bytes v).drop 1)).1
  simp only [Nat.zero_add] at h
  unfold seen
  rw [if_neg (by omega), hv]
/-- n bytes from a place on. -/
def sl (b : List Int) (i n : Nat) : List Int := (b.take (i + n)).drop i
theorem sl_len (b : List Int) (i n : Nat) (h : i + n ≤ b.length) : (sl b i n).length = n := by
  unfold sl; rw [List.length_drop, List.length_take]; omega
theorem sl_bytes {b : List Int} (h : Bytes b) (i n : Nat) : Bytes (sl b i n) := (h.take _).drop _
theorem get_sl {b : List Int} (hb : Bytes b) (i : Nat) (h : i + 8 ≤ b.length) : Ev (fun k => spec_l2Get.f k (sl b i 8)) (seen (sl b i 8)) :=
  l2Get_ev _ (sl_bytes hb i 8) (by rw [sl_len b i 8 h]; omega) (by rw [sl_len b i 8 h]; omega)
theorem encoded_bytes {base : Int} {ss : List S74} (h : ∀ x ∈ ss, Bytes x.f3) : Bytes (encoded base ss) := by
  unfold encoded
  refine ((word8_bytes _).append (word8_bytes _)).append ?_
  induction ss with
  | nil => exact fun _ h => by cases h
  | cons x ss ih =>
    rw [fromBytes_cons]
    refine Bytes.append ?_ (ih (fun y hy => h y (List.mem_cons_of_mem _ hy)))
    exact ((((word8_bytes _).append (word8_bytes _)).append (word8_bytes _)).append (word8_bytes _)).append (h x List.mem_cons_self)
theorem spec_encode (a : Int) (ss : List S74) (hs : ss.length ≤ 1048576) : ∃ z c, Ev (fun k => spec_EncodeState.f k a [] ss) (z, c) ∧ ((SvcOk a [] ss ∧ c = 0 ∧ z = encoded a ss) ∨ (¬ SvcOk a [] ss ∧ c = 5)) := by
  obtain ⟨b, h1, hiff⟩ := spec_valid a [] ss hs
  unfold spec_EncodeState.f
  cases b with
  | false =>
    refine ⟨[], 5, Ev.bind h1 ?_, Or.inr ⟨fun h => absurd (hiff.2 h) (by decide), rfl⟩⟩
    simp only [Bool.false_eq_true, if_false]
    exact Ev.now _
  | true =>
    have ho := hiff.1 rfl
    obtain ⟨⟨g1, g2, g3⟩, hks, hss⟩ := hiff.1 rfl
    refine ⟨encoded a ss, 0, Ev.bind h1 ?_, Or.inl ⟨ho, rfl, rfl⟩⟩
    simp only [if_true, List.length_nil, Int.natCast_zero, Int.add_zero]
    rw [w64 (x := a) (by omega) (by omega)]
    refine Ev.bind (put_ev _ (by omega) (by omega)) (Ev.bind (put_ev _ (by omega) (by omega)) ?_)
    simp only [word8_len, if_pos (show 8 + 8 < 140737488355328 by omega)]
    have hss' : SesssOk a ss 0 := by simpa using hss
    exact enc_l0 a ss (by omega) hs ss.length 0 _ (by omega) (by omega) hss' (by simp only [List.length_append, word8_len]; omega)
/-- What the given reader answers of what it has read. -/
def specEnd (b : List Int) (base : Int) (ss : List S74) (r : Int × List S24 × List S74 × Int) : Prop :=
  (SvcOk base [] ss ∧ b = encoded base ss ∧ r = (base, [], ss, 0)) ∨ (¬ (SvcOk base [] ss ∧ b = encoded base ss) ∧ r = (0, [], [], 5))
theorem dec_end (b : List Int) (hb : Bytes b) (hl : b.length ≤ 1048576) (base : Int) (ss : List S74) (hss : ∀ x ∈ ss, Bytes x.f3) (hn : ss.length ≤ 1048576) (at_ : Nat) (ha : at_ ≤ b.length) (h : ¬ (at_ + 32 ≤ b.length ∧ ss.length ≤ 50)) :
    ∃ r, Ev (fun k => spec_DecodeState.l0 k b 5 (at_ : Int) base ss) r ∧ specEnd b base ss r := by
  obtain ⟨z, c, he, hz⟩ := spec_encode base ss hn
  have w32 : wrap64 ((at_ : Int) + 32) = (at_ : Int) + 32 := w64 (by omega) (by omega)
  have key : ∃ r, Ev (fun k => spec_DecodeState.j1 k b 5 (at_ : Int) false base ss) r ∧ specEnd b base ss r := by
    rcases hz with ⟨ho, hc, hz⟩ | ⟨ho, hc⟩
    · subst hc
      by_cases e : z = b
      · refine ⟨(base, [], ss, 0), Ev.step (fun k => by rw [spec_DecodeState.j1, if_neg (by decide)]) (Ev.bind he ?_), Or.inl ⟨ho, by rw [← e, hz], rfl⟩⟩
        simp only [e, if_true]
        exact Ev.now _
      · refine ⟨(0, [], [], 5), Ev.step (fun k => by rw [spec_DecodeState.j1, if_neg (by decide)]) (Ev.bind he ?_), Or.inr ⟨fun h2 => e (by rw [hz, h2.2]), rfl⟩⟩
        have ne : ¬ (strOfNums z).toList = (strOfNums b).toList := fun h2 => e (strOfNums_one (by rw [hz]; exact encoded_bytes hss) hb h2)
        simp only [if_true, if_neg ne]
        exact Ev.now _
    · refine ⟨(0, [], [], 5), Ev.step (fun k => by rw [spec_DecodeState.j1, if_neg (by decide)]) (Ev.bind he ?_), Or.inr ⟨fun h2 => ho h2.1, rfl⟩⟩
      subst hc
      simp only [if_neg (show ¬ (5 : Int) = 0 by omega)]
      exact Ev.now _
  obtain ⟨r, hr, hs⟩ := key
  refine ⟨r, ?_, hs⟩
  by_cases c : at_ + 32 ≤ b.length
  · refine Ev.step (fun k => by rw [spec_DecodeState.l0, w32, if_pos (by omega), decide_eq_false (by omega)]) hr
  · exact Ev.step (fun k => by rw [spec_DecodeState.l0, w32, if_neg (by omega)]) hr
theorem dec_step (b : List Int) (hb : Bytes b) (hl : b.length ≤ 1048576) (base : Int) (ss : List S74) (at_ : Nat) (h32 : at_ + 32 ≤ b.length) (hn : ss.length ≤ 50) (r : Int × List S24 × List S74 × Int)
    (hbig : seen (sl b (at_ + 24) 8) > (b.length : Int) - at_ - 32 → r = (0, [], [], 5))
    (hgo : ∀ n : Nat, (n : Int) = seen (sl b (at_ + 24) 8) → at_ + 32 + n ≤ b.length → Ev (fun k => spec_DecodeState.l0 k b 5 ((at_ + 32 + n : Nat) : Int) base (ss ++ [⟨seen (sl b at_ 8), seen (sl b (at_ + 8) 8), seen (sl b (at_ + 16) 8), sl b (at_ + 32) n⟩])) r) :
    Ev (fun k => spec_DecodeState.l0 k b 5 (at_ : Int) base ss) r := by
  have w8 : wrap64 ((at_ : Int) + 8) = ((at_ + 8 : Nat) : Int) := by rw [w64 (by omega) (by omega)]; omega
  have w16 : wrap64 ((at_ : Int) + 16) = ((at_ + 16 : Nat) : Int) := by rw [w64 (by omega) (by omega)]; omega
  have w24 : wrap64 ((at_ : Int) + 24) = ((at_ + 24 : Nat) : Int) := by rw [w64 (by omega) (by omega)]; omega
  have w32 : wrap64 ((at_ : Int) + 32) = ((at_ + 32 : Nat) : Int) := by rw [w64 (by omega) (by omega)]; omega
  have wl : wrap64 (wrap64 ((b.length : Int) - at_) - 32) = (b.length : Int) - at_ - 32 := by rw [w64 (x := (b.length : Int) - at_) (by omega) (by omega), w64 (by omega) (by omega)]
  have s24 : (b.take (at_ + 32)).drop (at_ + 24) = sl b (at_ + 24) 8 := rfl
  have s16 : (b.take (at_ + 24)).drop (at_ + 16) = sl b (at_ + 16) 8 := rfl
  have s8 : (b.take (at_ + 16)).drop (at_ + 8) = sl b (at_ + 8) 8 := rfl
  have s0 : (b.take (at_ + 8)).drop at_ = sl b at_ 8 := rfl
  have e24 := get_sl hb (at_ + 24) (by omega)
  have e16 := get_sl hb (at_ + 16) (by omega)
  have e8 := get_sl hb (at_ + 8) (by omega)
  have e0 := get_sl hb at_ (by omega)
  have r24 := seen_range (sl_bytes hb (at_ + 24) 8) (by rw [sl_len b _ 8 (by omega)]; omega)
  refine Ev.step (fun k => by rw [spec_DecodeState.l0, w32, if_pos (by omega), decide_eq_true (by omega)]) ?_
  refine Ev.step (fun k => by rw [spec_DecodeState.j1, if_pos rfl, w8, w16, w24, w32, if_pos (by omega), if_pos (by omega), if_pos (by omega)]) ?_
  simp only [Int.toNat_natCast, s24, s16, s8, s0]
  refine Ev.bind e24 ?_
  rw [wl]
  by_cases c : seen (sl b (at_ + 24) 8) > (b.length : Int) - at_ - 32
  · simp only [if_pos c]
    rw [hbig c]
    exact Ev.now _
  · obtain ⟨n, hnn⟩ := Int.eq_ofNat_of_zero_le r24.1
    have g := hgo n hnn.symm (by omega)
    have p1 : 0 ≤ (at_ : Int) := by omega
    have p2 : (at_ : Int) ≤ ((at_ + 8 : Nat) : Int) := by omega
    have p3 : ((at_ + 8 : Nat) : Int) ≤ (b.length : Int) := by omega
    have p4 : 0 ≤ ((at_ + 8 : Nat) : Int) := by omega
    have p5 : ((at_ + 8 : Nat) : Int) ≤ ((at_ + 16 : Nat) : Int) := by omega
    have p6 : ((at_ + 16 : Nat) : Int) ≤ (b.length : Int) := by omega
    have p7 : 0 ≤ ((at_ + 16 : Nat) : Int) := by omega
    have p8 : ((at_ + 16 : Nat) : Int) ≤ ((at_ + 24 : Nat) : Int) := by omega
    have p9 : ((at_ + 24 : Nat) : Int) ≤ (b.length : Int) := by omega
    have p10 : 0 ≤ ((at_ + 32 : Nat) : Int) := by omega
    have wn : wrap64 (((at_ + 32 : Nat) : Int) + seen (sl b (at_ + 24) 8)) = ((at_ + 32 + n : Nat) : Int) := by rw [w64 (by omega) (by omega)]; omega
    have wm : wrap64 ((at_ : Int) + wrap64 (32 + seen (sl b (at_ + 24) 8))) = ((at_ + 32 + n : Nat) : Int) := by rw [w64 (x := 32 + seen _) (by omega) (by omega), w64 (by omega) (by omega)]; omega
    have p11 : ((at_ + 32 : Nat) : Int) ≤ ((at_ + 32 + n : Nat) : Int) := by omega
    have p12 : ((at_ + 32 + n : Nat) : Int) ≤ (b.length : Int) := by omega
    have sn : (b.take (at_ + 32 + n)).drop (at_ + 32) = sl b (at_ + 32) n := rfl
    have p13 : 0 + (sl b (at_ + 32) n).length < 140737488355328 := by rw [sl_len b _ n (by omega)]; omega
    have p14 : ss.length < 2932031007402 := by omega
    simp only [if_neg c, if_pos p1, if_pos p2, if_pos p3, if_pos p4, if_pos p5, if_pos p6, if_pos p7, if_pos p8, if_pos p9, if_pos p10, wn, wm, if_pos p11, if_pos p12, Int.toNat_natCast, sn, Option.bind_some, List.length_nil, if_pos p13, if_pos p14, List.nil_append]
    exact Ev.bind e0 (Ev.bind e8 (Ev.bind e16 g))
/-- (T) The given reader ends, and takes nothing but an encoded valid state. -/
theorem dec_all (b : List Int) (hb : Bytes b) (hl : b.length ≤ 1048576) (base : Int) (d : Nat) : ∀ (at_ : Nat) (ss : List S74), (∀ x ∈ ss, Bytes x.f3) → ss.length ≤ 51 → at_ ≤ b.length → b.length - at_ ≤ d →
    ∃ r, Ev (fun k => spec_DecodeState.l0 k b 5 (at_ : Int) base ss) r ∧ ((∃ ss', SvcOk base [] ss' ∧ b = encoded base ss' ∧ r = (base, [], ss', 0)) ∨ r = (0, [], [], 5)) := by
  induction d with
  | zero =>
    intro at_ ss hss hn ha hd
    obtain ⟨r, hr, he⟩ := dec_end b hb hl base ss hss (by omega) at_ ha (by omega)
    refine ⟨r, hr, ?_⟩
    rcases he with ⟨h1, h2, h3⟩ | ⟨_, h3⟩
    · exact Or.inl ⟨ss, h1, h2, h3⟩
    · exact Or.inr h3
  | succ d ih =>
    intro at_ ss hss hn ha hd
    by_cases c : at_ + 32 ≤ b.length ∧ ss.length ≤ 50
    · by_cases c2 : seen (sl b (at_ + 24) 8) > (b.length : Int) - at_ - 32
      · exact ⟨(0, [], [], 5), dec_step b hb hl base ss at_ c.1 c.2 _ (fun _ => rfl) (fun n h1 h2 => by omega), Or.inr rfl⟩
      · have r24 := seen_range (sl_bytes hb (at_ + 24) 8) (by rw [sl_len b _ 8 (by omega)]; omega)
        obtain ⟨n, hnn⟩ := Int.eq_ofNat_of_zero_le r24.1
        obtain ⟨r, hr, he⟩ := ih (at_ + 32 + n) (ss ++ [⟨seen (sl b at_ 8), seen (sl b (at_ + 8) 8), seen (sl b (at_ + 16) 8), sl b (at_ + 32) n⟩])
          (fun x hx => (List.mem_append.1 hx).elim (hss x) (fun h => by rw [List.mem_singleton.1 h]; exact sl_bytes hb _ _)) (by rw [List.length_append]; show ss.length + 1 ≤ 51; omega) (by omega) (by omega)
        refine ⟨r, dec_step b hb hl base ss at_ c.1 c.2 r (fun h => absurd h c2) (fun m h1 h2 => ?_), he⟩
        have e : m = n := by omega
        rw [e]
        exact hr
    · obtain ⟨r, hr, he⟩ := dec_end b hb hl base ss hss (by omega) at_ ha c
      refine ⟨r, hr, ?_⟩
      rcases he with ⟨h1, h2, h3⟩ | ⟨_, h3⟩
      · exact Or.inl ⟨ss, h1, h2, h3⟩
      · exact Or.inr h3
theorem sl_mid (p x q : List Int) : sl (p ++ (x ++ q)) p.length x.length = x := by
  unfold sl
  rw [← List.append_assoc, List.take_append_of_le_length (by rw [List.length_append]; omega), List.take_of_length_le (by rw [List.length_append]; omega), List.drop_append_of_le_length (Nat.le_refl _), List.drop_of_length_le (Nat.le_refl _), List.nil_append]
theorem sl_word (b p q : List Int) (v : Int) (i : Nat) (h0 : 0 ≤ v) (h1 : v < 4611686018427387904) (hb : b = p ++ (word8 v ++ q)) (hp : p.length = i) : seen (sl b i 8) = v := by
  have h := sl_mid p (word8 v) q
  rw [word8_len, hp, ← hb] at h
  rw [h]
  exact seen_word8 v h0 h1
/-- (L3) An encoded valid state is taken. -/
theorem dec_in (b : List Int) (hb : Bytes b) (hl : b.length ≤ 1048576) (base : Int) (all : List S74) (hall : ∀ x ∈ all, Bytes x.f3) (ho : SvcOk base [] all) (he : b = encoded base all) (h50 : all.length ≤ 50) (new : List S74) : ∀ (ss : List S74) (pre : List Int), all = ss ++ new → b = pre ++ fromBytes new 0 → (∀ x ∈ new, SessFit x) →
    Ev (fun k => spec_DecodeState.l0 k b 5 (pre.length : Int) base ss) (base, [], all, 0) := by
  induction new with
  | nil =>
    intro ss pre ha hp _
    rw [fromBytes_nil, List.append_nil] at hp
    rw [List.append_nil] at ha
    subst ha
    obtain ⟨r, hr, hs⟩ := dec_end b hb hl base all hall (by omega) pre.length (by rw [hp]; exact Nat.le_refl _) (by rw [hp]; omega)
    rcases hs with ⟨_, _, h3⟩ | ⟨h2, _⟩
    · rw [h3] at hr; exact hr
    · exact absurd ⟨ho, he⟩ h2
  | cons x new ih =>
    intro ss pre ha hp hf
    obtain ⟨h0, h1, h2, h3⟩ := hf x List.mem_cons_self
    have e1 : b = pre ++ (word8 x.f0 ++ (word8 x.f1 ++ (word8 x.f2 ++ (word8 (x.f3.length : Int) ++ (x.f3 ++ fromBytes new 0))))) := by
      rw [hp, fromBytes_cons, sessBytes]; simp only [List.append_assoc]
    have q0 := sl_word b pre (word8 x.f1 ++ (word8 x.f2 ++ (word8 (x.f3.length : Int) ++ (x.f3 ++ fromBytes new 0)))) x.f0 pre.length h0.1 (by omega) e1 rfl
    have q1 := sl_word b (pre ++ word8 x.f0) (word8 x.f2 ++ (word8 (x.f3.length : Int) ++ (x.f3 ++ fromBytes new 0))) x.f1 (pre.length + 8) h1.1 (by omega) (by rw [e1, List.append_assoc]) (by rw [List.length_append, word8_len])
    have q2 := sl_word b (pre ++ word8 x.f0 ++ word8 x.f1) (word8 (x.f3.length : Int) ++ (x.f3 ++ fromBytes new 0)) x.f2 (pre.length + 16) h2.1 (by omega) (by rw [e1]; simp only [List.append_assoc]) (by simp only [List.length_append, word8_len])
    have q3 := sl_word b (pre ++ word8 x.f0 ++ word8 x.f1 ++ word8 x.f2) (x.f3 ++ fromBytes new 0) (x.f3.length : Int) (pre.length + 24) (by omega) (by omega) (by rw [e1]; simp only [List.append_assoc]) (by simp only [List.length_append, word8_len])
    have q4 : sl b (pre.length + 32) x.f3.length = x.f3 := by
      have h := sl_mid (pre ++ word8 x.f0 ++ word8 x.f1 ++ word8 x.f2 ++ word8 (x.f3.length : Int)) x.f3 (fromBytes new 0)
      simp only [List.length_append, word8_len, List.append_assoc] at h
      rw [← e1] at h
      simpa only [Nat.add_assoc] using h
    have hlen : b.length = pre.length + 32 + x.f3.length + (fromBytes new 0).length := by
      rw [e1]; simp only [List.length_append, word8_len]; omega
    have hal : all.length = ss.length + (new.length + 1) := by rw [ha, List.length_append, List.length_cons]
    refine dec_step b hb hl base ss pre.length (by omega) (by omega) _ (fun h => by rw [q3] at h; omega) (fun n hn hle => ?_)
    rw [q3] at hn
    have en : n = x.f3.length := by omega
    subst en
    rw [q0, q1, q2, q4]
    have g := ih (ss ++ [x]) (pre ++ sessBytes x) (by rw [ha, List.append_assoc]; rfl) (by rw [hp, fromBytes_cons, List.append_assoc]) (fun y hy => hf y (List.mem_cons_of_mem _ hy))
    rw [List.length_append, sessBytes_len, ← Nat.add_assoc] at g
    exact g

theorem svc_rise {cnt : Int} {ss : List S74} (h : SesssOk cnt ss 0) : ∀ j : Nat, j < ss.length → (j : Int) + 1 ≤ (rd_T74 ss j).f0 := by
  intro j
  induction j with
  | zero => intro hj; have := (h 0 (Nat.le_refl _) hj).1.1; simpa using this
  | succ j ih =>
    intro hj
    have h1 := ih (by omega)
    have h2 := (h (j + 1) (Nat.zero_le _) hj).2.2.2 (by omega)
    rw [show j + 1 - 1 = j by omega] at h2
    omega
theorem svc_fit {a : Int} {ss : List S74} (h : SvcOk a [] ss) : (0 ≤ a ∧ a ≤ 1000000) ∧ ss.length ≤ 50 ∧ ∀ x ∈ ss, SessFit x := by
  obtain ⟨⟨h1, h2, _⟩, _, hs⟩ := h
  refine ⟨⟨h1, h2⟩, ?_, fun x hx => ?_⟩
  · by_cases c : ss.length = 0
    · omega
    · have r := svc_rise hs (ss.length - 1) (by omega)
      have q := (hs (ss.length - 1) (Nat.zero_le _) (by omega)).1.2.1
      omega
  · obtain ⟨j, hj, rfl⟩ := List.getElem_of_mem hx
    have q := hs j (Nat.zero_le _) hj
    rw [SessOk, rd_mem74 ss j hj] at q
    obtain ⟨⟨q1, q2, q3, q4, q5⟩, q6, q7, _⟩ := q
    simp only [List.length_nil, Int.natCast_zero, Int.add_zero] at q7
    exact ⟨⟨by omega, by omega⟩, ⟨by omega, by omega⟩, ⟨by omega, by omega⟩, q5⟩
theorem bytes_left {x y : List Int} (h : Bytes (x ++ y)) : Bytes x := fun b hb => h b (List.mem_append_left _ hb)
theorem bytes_right {x y : List Int} (h : Bytes (x ++ y)) : Bytes y := fun b hb => h b (List.mem_append_right _ hb)
theorem fromBytes_data {ss : List S74} (h : Bytes (fromBytes ss 0)) : ∀ x ∈ ss, Bytes x.f3 := by
  induction ss with
  | nil => exact fun _ h => by cases h
  | cons y ss ih =>
    rw [fromBytes_cons] at h
    intro x hx
    rcases List.mem_cons.1 hx with rfl | hx
    · exact bytes_right (bytes_left h)
    · exact ih (bytes_right h) x hx
theorem dsLoop_len (n : Nat) : ∀ (l : List Int) (ss : List S74), (dsLoop n l ss).2.2.length ≤ ss.length + n := by
  induction n with
  | zero => intro l ss; exact Nat.le_refl _
  | succ n ih =>
    intro l ss
    rw [dsLoop]
    split
    · refine Nat.le_trans (ih _ _) ?_
      rw [List.length_append]
      simp only [List.length_cons, List.length_nil]
      omega
    · rw [List.length_append]
      simp only [List.length_cons, List.length_nil]
      omega
theorem dsRun_len (b : List Int) (hb : Bytes b) (hl : b.length ≤ 1048576) : (dsRun b).2.2.length ≤ 50 := by
  have g1 := nextF_good (l := b) (ok := true) (m := 2000000) ⟨hb, by omega⟩
  have r : 0 ≤ (dsCount b).1 ∧ (dsCount b).1 ≤ 50 := nextF_range (ok := (dsBase b).2.2) (m := 50) g1 (by omega)
  unfold dsRun dsGo
  split
  · have h := dsLoop_len (dsCount b).1.toNat (dsCount b).2.1 []
    simp only [List.length_nil, Nat.zero_add] at h
    omega
  · simp
theorem dec_f (b : List Int) (hb : Bytes b) (h16 : 16 ≤ b.length) (r : Int × List S24 × List S74 × Int) (h : Ev (fun k => spec_DecodeState.l0 k b 5 16 (seen (sl b 0 8)) []) r) : Ev (fun k => spec_DecodeState.f k b) r := by
  unfold spec_DecodeState.f
  have e := get_sl hb 0 (by omega)
  have es : sl b 0 8 = b.take 8 := by unfold sl; rw [Nat.zero_add, List.drop_zero]
  rw [es] at e h
  simp only [if_neg (show ¬ (b.length : Int) < 16 by omega), if_pos (show 8 ≤ (b.length : Int) by omega)]
  exact Ev.bind e h
theorem encoded_len {base : Int} {ss : List S74} : (encoded base ss).length = 16 + (fromBytes ss 0).length := by
  unfold encoded; simp only [List.length_append, word8_len]
/-- Both readers tell the same. -/
theorem decode_both (b : List Int) (hb : Bytes b) (hl : b.length ≤ 1048576) : ∃ valid r1 r3 r4, Ev (fun k => spec_DecodeState.f k b) (r1, [], r3, r4) ∧ Ev (fun k => impl_Service_valid.f k (dsBase b).1 [] (dsRun b).2.2) valid ∧ dsTell b valid = (r1, r3, r4) ∧ r3.length ≤ 50 ∧ ∀ x ∈ r3, x.f3.length ≤ 64 := by
  obtain ⟨valid, hv, hiff⟩ := impl_valid (dsBase b).1 [] (dsRun b).2.2 (by have := dsRun_len b hb hl; omega)
  by_cases c : ∃ base ss, SvcOk base [] ss ∧ b = encoded base ss
  · obtain ⟨base, ss, ho, he⟩ := c
    obtain ⟨hba, h50, hfit⟩ := svc_fit ho
    have hdat : ∀ x ∈ ss, Bytes x.f3 := fromBytes_data (bytes_right (x := word8 base ++ word8 (ss.length : Int)) (by rw [he] at hb; exact hb))
    obtain ⟨i1, i2⟩ := dsRun_in base ss hba.1 (by omega) h50 hfit
    rw [← he] at i1 i2
    have hvt : valid = true := hiff.2 (by rw [i1, i2]; exact ho)
    have hlen := encoded_len (base := base) (ss := ss)
    rw [← he] at hlen
    have hb0 : seen (sl b 0 8) = base := sl_word b [] _ base 0 hba.1 (by omega) (by rw [he]; unfold encoded; rw [List.append_assoc]; rfl) rfl
    have g := dec_in b hb hl base ss hdat ho he h50 ss [] (word8 base ++ word8 (ss.length : Int)) rfl he hfit
    rw [List.length_append, word8_len, word8_len] at g
    refine ⟨valid, base, ss, 0, dec_f b hb (by omega) _ (by rw [hb0]; exact g), hv, ?_, h50, fun x hx => (hfit x hx).2.2.2⟩
    rw [hvt]
    unfold dsTell
    rw [if_pos (by rw [i2]; exact ⟨rfl, rfl, rfl⟩), i1, i2]
  · have him : dsTell b valid = (0, [], 5) := by
      unfold dsTell
      refine if_neg (fun ⟨h1, h2, h3⟩ => c ⟨(dsBase b).1, (dsRun b).2.2, hiff.1 h3, dsRun_out b hb h1 h2⟩)
    refine ⟨valid, 0, [], 5, ?_, hv, him, by simp, fun _ h => by cases h⟩
    by_cases h16 : 16 ≤ b.length
    · obtain ⟨r, hr, he⟩ := dec_all b hb hl (seen (sl b 0 8)) b.length 16 [] (fun _ h => by cases h) (by simp) h16 (by omega)
      have er : r = (0, [], [], 5) := by
        rcases he with ⟨ss', h1, h2, _⟩ | h
        · exact absurd ⟨_, ss', h1, h2⟩ c
        · exact h
      rw [er] at hr
      exact dec_f b hb h16 _ hr
    · unfold spec_DecodeState.f
      simp only [if_pos (show (b.length : Int) < 16 by omega)]
      exact Ev.now _
theorem FnExactDecodeState (A0 : Option Addr) (c0 : Nat) (l0 : List Int) (w : World) (hr0 : Kd.C (Kd.int .u8) w A0 l0.length l0) (hc0 : l0.length ≤ c0)
    (_ : l0.length ≤ 9223372036854775807) (g0 : ∀ b ∈ l0, (Lit.int .u8 b).wf = true) :
    Calls Try.prog 6 #[.slice A0 l0.length c0] w fun e w' => e = .returned (.bool true) ∧ Below w.heap.size w w' := by
  by_cases c : 1048576 < l0.length
  · exact lawDecodeState.large A0 c0 l0 w c
  · have hb := bytes_of g0
    obtain ⟨valid, r1, r3, r4, hs, hv, him, h50, h64⟩ := decode_both l0 hb (by omega)
    have h64' : ∀ x ∈ r3, x.f3.length ≤ 1048576 := fun x hx => by have := h64 x hx; omega
    have i2 := sessTot_le r3 h64'
    obtain ⟨z2, hm, hl2, hM⟩ := markByteS_ev 1 (by omega) (by omega) l0 (by omega)
    obtain ⟨K1, f1⟩ := toByteS_ev l0 (by omega)
    obtain ⟨K2, f2⟩ := hs
    obtain ⟨K3, f3⟩ := hv
    obtain ⟨K4, f4⟩ := eqByteS_ev l0 (by omega)
    obtain ⟨K5, f5⟩ := eqService_ev r1 [] r3 (by simp) (by omega) (fun _ h => by cases h) h64'
    obtain ⟨K6, f6⟩ := hm
    have hp : DsPure (K1 + K2 + K3 + K4 + K5 + K6 + 2097155) l0 valid r1 r3 r4 z2 := {
      small := by omega
      good := hb
      cp := f1 _ (by omega), sp := f2 _ (by omega), va := f3 _ (by omega), im := him, eqb := f4 _ (by omega), eqs := f5 _ (by omega), mark := f6 _ (by omega)
      tot := by omega
      len := by omega
      held := fun m2 hm2 => heldService_k r1 r3 h64' (by omega) _ (by omega) m2 hm2 }
    exact lawDecodeState.calls _ A0 c0 l0 valid r1 r3 r4 z2 w hr0 hc0 hp

end Go.Proofs.Ytladodfapnigfaa.Pure
